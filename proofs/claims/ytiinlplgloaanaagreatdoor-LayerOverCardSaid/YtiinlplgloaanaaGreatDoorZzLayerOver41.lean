/- Chapter 7 in the heap: slices.Contains over bricks. -/
import Derived.Test.YtiinlplgloaanaaGreatDoorZzLayerOver40
set_option linter.all false
set_option maxRecDepth 100000
set_option maxHeartbeats 4000000
namespace Go.Proofs.YtiinlplgloaanaaGreatDoor
open Go.RowKit
attribute [local go_sem] Oper.semAt_some
theorem qgJ {a:Act} {tp:Tmp} {bb:Nat} (h:a.eval (.tmp tp)=.func (.func 39) #[.pointer (some ⟨bb,0,none⟩)] #[]) (l:Nat) (W:World) :
  ∃ d,(resolve a.eval (rangeCall (.tmp tp) l) 0).run Tryz.prog W=.ok d W/\(invoke d.target d.args).run Tryz.prog W=.ok (.enter 39 #[.pointer (some ⟨bb,0,none⟩),.func (.yield l) #[] #[]]) W:=by
 refine⟨{ target:=.fn (.func 39) #[],args:=#[.pointer (some ⟨bb,0,none⟩),.func (.yield l) #[] #[]] },?_,?_⟩
 ·simp only[resolve,h];simp[go_sem]
 ·simp[invoke,go_sem]
theorem infoII:(Tryz.prog.info? 30).map (λ i=>(i.zero,i.size,i.bytes))=some (some (.slice none 0 0),1,24):=by kernel_rfl
def qdS (t:Tk) (w:World) (e:Ending) (w':World):Prop:=∃ all unlike nodes code:Nat,e=.returned (.tuple #[.int .i64 all,.int .i64 unlike,.int .i64 nodes,.int .i64 code])/\Bw w w' /\
 (OkT t->(all,unlike,nodes,code)=countT t)/\(¬ OkT t->all=0/\unlike=0/\nodes=0/\code=2)
theorem zez {t:Tk} {L:List E} (ok:TkOk t L) (ho:OkT t) {T:List Pc} (h:T∈(tilingsT t).1) (hr:∀ s,rootT t=some s->GoodT t s):∀ p∈T,0<=p.ld.kind/\p.ld.kind<100:=by
 unfold tilingsT at h;split at h
 ·cases h
 rename_i s hs;split at h
 ·split at h
  ·cases h
  simp only at h;obtain⟨u,hu,rfl⟩:=yP.1 h;have hg:=(qa6 _ (hr s hs) hu).1;intro p hp;have hm:=hg.mem p ((zam t.ground u).mem_iff.1 hp);obtain⟨h1,h2⟩:=(qbi ho.kinds ho.clen).2.1 p hm;have h3:=ho.clen;have h4:=ho.klen.2;omega
 cases h
theorem qed {P:Program} {C:World->Prop} {o:Oper} {a:Act} {K:Act->Prop} (ty:TypeId) (x:Operand) (ho:o.op=.load ty x) {p:Value} (hx:a.eval x=p) {v:Value} (hv:∀ w,C w->(Instr.loadAt ty p).run P w=.ok v w) (hk:K (a.put o.dst v)):o.quiet P a C K:=by
 refine⟨v,λ w hc=>?_,hk⟩;unfold Oper.quietAt execOp;simp only[ho,hx,yG,hv w hc,yz,yH];exact⟨rfl,rfl⟩
theorem qez (t:Tk):(tilingsT t).2.2=0\/(tilingsT t).2.2=8:=by
 unfold tilingsT;split
 ·exact .inl rfl
 split
 ·split
  ·exact .inr rfl
  exact .inl rfl
 exact .inl rfl
theorem qbX {t:Tk}:∀ (l:List Ld) {s s':List Pc},GoodT t s->l.foldl (stepR t) (some s)=some s'->GoodT t s'
 | [],s,s',h,e=>by
  simp only[YD,yo]at e;exact e▸h
 | x :: l,s,s',h,e=>by
  rw[Yv]at e
  cases hx:stepR t (some s) x with
  | none=>rw[hx,zbp]at e;cases e
  | some s1 =>
   rw[hx]at e;refine qbX l ?_ e;unfold stepR at hx;simp only at hx;split at hx
   ·cases hx
   rename_i p hp;obtain⟨k,pl,h1,h2,_⟩:=zco hp;exact zb5 h (List.mem_flatten.2 ⟨pl,yg h1,h2⟩) hx
theorem za2 {t:Tk} {s:List Pc} (h:rootT t=some s):GoodT t s:=qbX t.fixed (zel t) h
theorem zgU {t:Tk} {x y:List Pc} (h:x.Perm y) (g:GoodT t x):GoodT t y :=
 ⟨λ p hp=>g.mem p (h.mem_iff.2 hp),(h.pairwise_iff (λ {a b} hab q h1 h2=>hab q h2 h1)).1 g.apart⟩
theorem zgh {t:Tk} {x y:List Pc} (h:x.Perm y) (g:fullT t x=true):fullT t y=true:=by
 unfold fullT at g ⊢;rw[List.all_eq_true]at g ⊢;intro q hq;have:=g q hq;unfold covT at this ⊢;rwa [<- h.any_eq]
theorem qfE {t:Tk} {x y:List Pc} (h:x.Perm y) (g:rightT t x=true):rightT t y=true:=by
 unfold rightT at g ⊢;rw[List.all_eq_true]at g ⊢;intro c hc;have:=g c hc;rwa [zf1 h]at this
structure TlT (t:Tk) (x:List Pc):Prop where
 good:GoodT t x
 full:fullT t x=true
 right:rightT t x=true
 sort:x.Pairwise λ a b=>leastP t.ground a<leastP t.ground b
theorem qeb {t:Tk} (ho:OkT t) {x:List Pc} (hx:x∈(tilingsT t).1):TlT t x:=by
 obtain⟨p1,p2,p3⟩:=qbi ho.kinds ho.clen;unfold tilingsT at hx;split at hx
 ·cases hx
 rename_i s hs;split at hx
 ·split at hx
  ·cases hx
  simp only at hx;obtain⟨y,hy,rfl⟩:=yP.1 hx;obtain⟨h1,h2,h3⟩:=qa6 _ (za2 hs) hy;have hp:=(zam t.ground y).symm;refine⟨zgU hp h1,zgh hp h2,qfE hp h3,qeR _ _ (qbJ h1.apart λ p hpy=>?_)⟩;obtain⟨q,hq⟩:=List.exists_mem_of_ne_nil _ (p1 p (h1.mem p hpy));exact⟨q,p3 p (h1.mem p hpy) q hq,hq⟩
 cases hx
theorem zd1 {t:Tk} {x:List Pc} (h:rightT t x=true) {k:Nat} (hk:k<t.counts.length):(manyT x k:Int)=t.counts.getD k 0:=by
 unfold rightT at h;rw[List.all_eq_true]at h;have:=h (t.counts[k],k) (by rw[List.mem_zipIdx_iff_getElem?];simp[yb hk]);simp only[yS]at this;rw[this,yu,yb hk,Yw]
theorem qhM {t:Tk} {x:List Pc} (h:∀ k:Nat,k<t.counts.length->(manyT x k:Int)=t.counts.getD k 0):rightT t x=true:=by
 unfold rightT;rw[List.all_eq_true];rintro⟨c,k⟩ hck;obtain⟨hk1,hk2⟩:=List.mem_zipIdx' hck;simp only[yS];rw[h k hk1,yu,yb hk1,Yw,hk2]
theorem qaf {t:Tk} (ho:OkT t) {x:List Pc} (h:GoodT t x):(x.map (·.qs)).flatten.Nodup/\(∀ q∈(x.map (·.qs)).flatten,q∈t.ground)/\∀ l∈x.map (·.qs),checkN l=0:=by
 obtain⟨p1,p2,p3⟩:=qbi ho.kinds ho.clen;have A:∀ p∈x,checkN p.qs=0:=λ p hp=>by
  obtain⟨k,s,pl,h1,h2,rfl⟩:=zah (h.mem p hp);have hs:=ho.kinds s (yg h1);obtain⟨q1,q2,q3⟩:=zby hs h2 k;obtain⟨s1,s2,s3⟩:=qh hs;have D:∀ q∈(pieceP k s pl).qs,inQ q:=λ q hq=>(qh ho.ground).1.1 q (q3 q hq);have C:=p1 _ (h.mem _ hp);have B:Srt (pieceP k s pl).qs:=by
   rw[q1];unfold putP;exact zev _ _ (qeF s1.2.nodup (λ q hq=>(s1.1 q hq).okS) _ _)
  unfold checkN;rw[Yz (by rw[q2];omega),YA ⟨⟨D,B⟩,C⟩]
 refine⟨List.pairwise_flatten.2 ⟨λ l hl=>?_,?_⟩,λ q hq=>?_,λ l hl=>?_⟩
 ·obtain⟨p,hp,rfl⟩:=yP.1 hl;exact (qh (A p hp)).1.2.nodup
 ·rw[List.pairwise_map];refine h.apart.imp ?_;intro a b hab q hq r hr e;subst e;exact hab q hq hr
 ·obtain⟨l,hl,hq⟩:=List.mem_flatten.1 hq;obtain⟨p,hp,rfl⟩:=yP.1 hl;exact p3 p (h.mem p hp) q hq
 obtain⟨p,hp,rfl⟩:=yP.1 hl;exact A p hp
theorem qcW {t:Tk} (ho:OkT t) {x:List Pc} (h:GoodT t x) (hf:fullT t x=true):∀ q,q∈(x.map (·.qs)).flatten↔q∈t.ground:=by
 obtain⟨h1,h2,_⟩:=qaf ho h;refine λ q=>⟨h2 q,λ hq=>?_⟩;unfold fullT at hf;rw[List.all_eq_true]at hf;obtain⟨p,hp,hpq⟩:=qaT.1 (hf q hq);exact List.mem_flatten.2 ⟨p.qs,yP.2 ⟨p,hp,rfl⟩,hpq⟩
theorem qg1 {ks:List (List Q)}:∀ (cs:List Int) (x:List Pc) (i:Nat),cs.length+i=ks.length->(∀ p∈x,(i:Int)<=p.ld.kind/\p.ld.kind<(ks.length:Int)/\p.qs.length=(ks.getD p.ld.kind.toNat []).length)->(∀ k:Nat,k<cs.length->(manyT x ((k+i:Nat):Int):Int)=cs.getD k 0) ->
  ((cs.zip (ks.drop i)).map λ x=>x.1*(x.2.length:Int)).sum=(x.map λ p=>(p.qs.length:Int)).sum
 | [],x,i,hl,hx,_=>by
  have:x=[]:=by
   cases x with
   | nil=>rfl
   | cons p x =>
    have:=hx p (by simp);simp only[yN,Nat.zero_add]at hl;omega
  subst this;simp
 | c :: cs,x,i,hl,hx,hm=>by
  simp only[yA]at hl;have hi:i<ks.length:=by omega
  rw[List.drop_eq_getElem_cons hi,List.zip_cons_cons,yM,List.sum_cons];have A:(x.map λ p=>(p.qs.length:Int)).sum=((x.filter λ p=>decide (p.ld.kind=(i:Int))).map λ p=>(p.qs.length:Int)).sum+((x.filter λ p=>!decide (p.ld.kind=(i:Int))).map λ p=>(p.qs.length:Int)).sum:=by
   clear hx hm
   induction x with
   | nil=>simp
   | cons p x ih =>
    by_cases hp:p.ld.kind=(i:Int)
    ·rw[List.filter_cons_of_pos (by simpa using hp),List.filter_cons_of_neg (by simpa using hp)];simp only[yM,List.sum_cons];omega
    rw[List.filter_cons_of_neg (by simpa using hp),List.filter_cons_of_pos (by simpa using hp)];simp only[yM,List.sum_cons];omega
  have B:((x.filter λ p=>decide (p.ld.kind=(i:Int))).map λ p=>(p.qs.length:Int)).sum=(manyT x i:Int)*(ks[i].length:Int):=by
   unfold manyT;have:∀ y:List Pc,(∀ p∈y,p.qs.length=ks[i].length)->(y.map λ p=>(p.qs.length:Int)).sum=(y.length:Int)*(ks[i].length:Int):=by
    intro y hy
    induction y with
    | nil=>simp
    | cons p y ih =>
     rw[yM,List.sum_cons,ih λ q hq=>hy q (by simp[hq]),hy p (by simp),yA];rw[show ((y.length+1:Nat):Int)=(y.length:Int)+1 by omega,Int.add_mul];omega
   refine this _ λ p hp=>?_;obtain⟨h1,h2⟩:=List.mem_filter.1 hp;rw[yS]at h2;rw[(hx p h1).2.2,h2,Int.toNat_natCast,yu,yb hi,Yw]
  have h0:=hm 0 (by simp);simp only[Nat.zero_add,List.getD_cons_zero]at h0;rw[A,B,h0];have ih:=qg1 (ks:=ks) cs (x.filter λ p=>!decide (p.ld.kind=(i:Int))) (i+1) (by omega) (λ p hp=>by
   obtain⟨h1,h2⟩:=List.mem_filter.1 hp;have:=hx p h1;simp only[Bool.not_eq_true',decide_eq_false_iff_not]at h2;exact⟨by omega,this.2⟩) (λ k hk=>by
   have h1:=hm (k+1) (by simp only[yA];omega);rw[List.getD_cons_succ]at h1;rw[<- h1];unfold manyT;rw[List.filter_filter];have e:(k+(i+1))=(k+1+i):=(by omega);rw[e];congr 2;refine List.filter_congr λ p _=>?_;by_cases hp:p.ld.kind=((k+1+i:Nat):Int)
   ·rw[yw hp,yv (by omega)];rfl
   rw[yv hp];rfl)
  rw[ih]
theorem zb3 {t:Tk} (ho:OkT t) {x:List Pc} (h:GoodT t x) (e:E):jointT x e=jointP (zk 0 (x.map (·.qs))) (whoE (x.map (·.qs)).flatten e):=by
 obtain⟨f1,f2,f3⟩:=qaf ho h;have hq:∀ q∈(x.map (·.qs)).flatten,inQ q:=λ q hq=>(qh ho.ground).1.1 q (f2 q hq);have hc:=zfR f1 hq e;have e1:((x.map (·.qs)).filter λ l=>oneP (whoE l e)).length=(x.filter λ p=>decide (e∈borderE p.qs)).length:=by
  rw[List.filter_map,yB];congr 1;refine List.filter_congr λ p hp=>?_;have hi:=(qh (f3 p.qs (yP.2 ⟨p,hp,rfl⟩))).1.1;have hb:e∈borderE p.qs↔oneP (whoE p.qs e)=true:=qcb hi (by rfl) e;show oneP (whoE p.qs e)=_
  cases ho1:oneP (whoE p.qs e)with
  | true=>exact (yw (hb.2 ho1)).symm
  | false=>exact (yv λ hm=>by rw[hb.1 hm]at ho1;cases ho1).symm
 rw[e1]at hc;unfold jointT
 cases hj:jointP (zk 0 (x.map (·.qs))) (whoE (x.map (·.qs)).flatten e)with
 | true=>rw[hj]at hc;exact yw (by simp at hc;omega)
 | false =>
  rw[hj]at hc;refine yv ?_;simp at hc;split at hc <;> omega
theorem qb7 {ls:List (List Q)} (hq:∀ q∈ls.flatten,inQ q) (e:E):e∈jointE ls↔jointP (zk 0 ls) (whoE ls.flatten e)=true:=qcb hq (p:=jointP (zk 0 ls)) (by rfl) e
theorem zbC {ls:List (List Q)} (hq:∀ q∈ls.flatten,inQ q):(jointE ls).Nodup:=qfS hq _
theorem qfe {t:Tk} (ho:OkT t) {x:List Pc} (h:GoodT t x) {L:List E} (hL:LOk t.ground L):(L.filter (jointT x)).Perm (jointE (x.map (·.qs))):=by
 obtain⟨f1,f2,f3⟩:=qaf ho h;have hq:∀ q∈(x.map (·.qs)).flatten,inQ q:=λ q hq=>(qh ho.ground).1.1 q (f2 q hq);refine (List.perm_ext_iff_of_nodup (hL.nodup.sublist List.filter_sublist) (zbC hq)).2 λ e=>?_;rw[qb7 hq,List.mem_filter,zb3 ho h];refine⟨λ h=>h.2,λ hj=>⟨?_,hj⟩⟩
 cases hw:whoE (x.map (·.qs)).flatten e with
 | nil=>rw[hw]at hj;simp[jointP]at hj
 | cons q l =>
  have:q∈whoE (x.map (·.qs)).flatten e:=by rw[hw];simp
  obtain⟨h1,h2⟩:=List.mem_filter.1 this;exact (hL.mem e).2 ⟨q,f2 q h1,by simpa using h2⟩
theorem zgx {t:Tk} (ho:OkT t) {x:List Pc} (h:GoodT t x) (h60:x.length<=60):zN (x.map (·.qs))=0:=by
 obtain⟨f1,_,f3⟩:=qaf ho h;unfold zN;rw[Yz (by rw[yB];omega),Yz (by rw[qcc f3];simp),YA f1]
theorem zeI {t:Tk} (ho:OkT t) {x:List Pc} (h:TlT t x):x.length<=16:=by
 obtain⟨p1,p2,p3⟩:=qbi ho.kinds ho.clen;have B:∀ (cs:List Int) (x:List Pc) (i:Nat),(∀ p∈x,(i:Int)<=p.ld.kind/\p.ld.kind<(i+cs.length:Nat))->(∀ k:Nat,k<cs.length->(manyT x ((k+i:Nat):Int):Int)=cs.getD k 0)->(x.length:Int)=cs.sum:=by
  intro cs
  induction cs with
  | nil =>
   intro x i hx _
   cases x with
   | nil=>rfl
   | cons p x =>
    have:=hx p (by simp);simp only[yN,Nat.add_zero]at this;omega
  | cons c cs ih =>
   intro x i hx hm;have h0:=hm 0 (by simp);simp only[Nat.zero_add,List.getD_cons_zero]at h0;have A:x.length=manyT x i+(x.filter λ p=>!decide (p.ld.kind=(i:Int))).length:=by
    unfold manyT;clear hx hm h0 ih
    induction x with
    | nil=>rfl
    | cons p x ih =>
     by_cases hp:p.ld.kind=(i:Int)
     ·rw[List.filter_cons_of_pos (by simpa using hp),List.filter_cons_of_neg (by simpa using hp)];simp only[yA];omega
     rw[List.filter_cons_of_neg (by simpa using hp),List.filter_cons_of_pos (by simpa using hp)];simp only[yA];omega
   have:=ih (x.filter λ p=>!decide (p.ld.kind=(i:Int))) (i+1) (λ p hp=>by
    obtain⟨h1,h2⟩:=List.mem_filter.1 hp;have h3:=hx p h1;simp only[Bool.not_eq_true',decide_eq_false_iff_not]at h2;simp only[yA]at h3;omega) (λ k hk=>by
    have h1:=hm (k+1) (by simp only[yA];omega);rw[List.getD_cons_succ]at h1;rw[<- h1];unfold manyT;rw[List.filter_filter];have e:(k+(i+1))=(k+1+i):=(by omega);rw[e];congr 2;refine List.filter_congr λ p _=>?_;by_cases hp:p.ld.kind=((k+1+i:Nat):Int)
    ·rw[yw hp,yv (by omega)];rfl
    rw[yv hp];rfl)
   rw[List.sum_cons];omega
 have:=B t.counts x 0 (λ p hp=>by
  have:=p2 p (h.good.mem p hp);rw[Nat.zero_add];omega) (λ k hk=>by rw[Nat.add_zero];exact zd1 h.right hk)
 have:=ho.csum;omega
def ld0:Ld:=⟨0,false,0,0,0⟩
def pc0:Pc:=⟨ld0,[]⟩
def firstN (n:Nat) (p:Nat->Bool):Option Nat:=(List.range n).find? p
theorem zao {n:Nat} {p:Nat->Bool} {i:Nat} (hi:i<n) (hp:p i=true) (h:∀ j,j<i->p j=false):firstN n p=some i:=by
 unfold firstN;rw[List.find?_eq_some_iff_getElem];refine⟨hp,i,by rw[yZ];exact hi,by simp,λ j hj=>?_⟩;rw[List.getElem_range,h j hj];rfl
theorem qi {n:Nat} {p:Nat->Bool} (h:∀ j,j<n->p j=false):firstN n p=none:=by
 unfold firstN;rw[List.find?_eq_none];intro x hx;rw[h x (List.mem_range.1 hx)];decide
theorem zZ {n:Nat} {p:Nat->Bool} (h:firstN n p=none) {j:Nat} (hj:j<n):p j=false:=by
 unfold firstN at h;rw[List.find?_eq_none]at h;simpa using h j (List.mem_range.2 hj)
def parts (t:Tk) (l:List Ld):List Pc:=l.filterMap (findT t)
def qaQ (t:Tk) (l:List Ld) (i:Nat):Bool:=(findT t (l.getD i ld0)).isNone
def rule2 (t:Tk) (T:List Pc) (i:Nat):Bool:=decide (0<i)&&decide (leastP t.ground (T.getD i pc0)<=leastP t.ground (T.getD (i-1) pc0))
def qaK (T:List Pc) (i:Nat):Bool:=(T.getD i pc0).qs.any (covT (T.take i))
def qaE (t:Tk) (T:List Pc) (i:Nat):Bool:=!covT T (t.ground.getD i ⟨0,0,0⟩)
def zaE (t:Tk) (T:List Pc) (k:Nat):Bool:=decide (¬ (manyT T k:Int)=t.counts.getD k 0)
def qaR (t:Tk) (l:List Ld) (i:Nat):Bool:=decide (t.fixed.getD i ld0∉l)
def zaO (t:Tk) (T:List Pc) (i:Nat):Bool:=jointT T (t.below.getD i ⟨0,0,0⟩)
def coversT (t:Tk) (l:List Ld):Nat × Nat :=
 match firstN l.length (qaQ t l)with
 | some i=>(1,i)
 | none=>match firstN (parts t l).length (rule2 t (parts t l))with
  | some i=>(2,i)
  | none=>match firstN (parts t l).length (qaK (parts t l))with
   | some i=>(3,i)
   | none=>match firstN t.ground.length (qaE t (parts t l))with
    | some i=>(4,i)
    | none=>match firstN t.counts.length (zaE t (parts t l))with
     | some i=>(5,i)
     | none=>match firstN t.fixed.length (qaR t l)with
      | some i=>(6,i)
      | none=>match firstN t.below.length (zaO t (parts t l))with
       | some i=>(7,i)
       | none=>(0,0)
structure FullT (t:Tk) (x:List Pc):Prop extends TlT t x where
 fixed:∀ f∈t.fixed,f∈x.map (·.ld)
 quiet:∀ e∈t.below,jointT x e=false
theorem qbO {t:Tk} {x:List Pc} (h:∀ p∈x,p∈(piecesT t).flatten):parts t (x.map (·.ld))=x:=by
 unfold parts
 induction x with
 | nil=>rfl
 | cons p x ih =>
  rw[yM,List.filterMap_cons,qdC (h p (by simp))];simp only;rw[ih λ q hq=>h q (by simp[hq])]
theorem zij {t:Tk} {x y:List Pc} (hx:∀ p∈x,p∈(piecesT t).flatten) (hy:∀ p∈y,p∈(piecesT t).flatten) (h:x.map (·.ld)=y.map (·.ld)):x=y:=by
 rw[<- qbO hx,h,qbO hy]
theorem zcv {t:Tk} {x:List Pc} (h:FullT t x):coversT t (x.map (·.ld))=(0,0):=by
 have hm:=h.good.mem;unfold coversT;rw[qbO hm];rw[qi λ i hi=>by
  unfold qaQ;rw[yB]at hi;rw[yu,yQ,yb hi];show (findT t x[i].ld).isNone=false;rw[qdC (hm _ (List.getElem_mem hi))];rfl]
 simp only;rw[qi λ i hi=>by
  unfold rule2
  cases i with
  | zero=>rfl
  | succ i =>
   have:=List.pairwise_iff_getElem.1 h.sort i (i+1) (by omega) hi (by omega);rw[Nat.add_sub_cancel,yu,yb hi,yu,yb (by omega:i<x.length)];simp only[Yw];rw[yv (Nat.not_le_of_lt this),Bool.and_false]]
 simp only;rw[qi λ i hi=>by
  unfold qaK;rw[List.any_eq_false];intro q hq hc;rw[yu,yb hi,Yw]at hq;obtain⟨p,hp,A⟩:=qaT.1 hc;obtain⟨j,hj,e⟩:=List.getElem_of_mem hp;rw[Yf]at hj;rw[List.getElem_take]at e;have:=List.pairwise_iff_getElem.1 h.good.apart j i (by omega) hi (by omega) q (by rw[e];exact A);exact this hq]
 simp only;rw[qi λ i hi=>by
  unfold qaE;have hf:=h.full;unfold fullT at hf;rw[List.all_eq_true]at hf;rw[yu,yb hi,Yw,hf _ (List.getElem_mem hi)];rfl]
 simp only;rw[qi λ k hk=>by
  unfold zaE;exact yv λ hn=>hn (zd1 h.right hk)]
 simp only;rw[qi λ i hi=>by
  unfold qaR;rw[yu,yb hi,Yw];exact yv λ hn=>hn (h.fixed _ (List.getElem_mem hi))]
 simp only;rw[qi λ i hi=>by
  unfold zaO;rw[yu,yb hi,Yw];exact h.quiet _ (List.getElem_mem hi)]
theorem qfi {t:Tk} (_ho:OkT t) {x:List Pc} (h:FullT t x):coversT t (x.map (·.ld))=(0,0):=zcv h
theorem qeq {t:Tk} {l:Ld} {p:Pc} (h:findT t l=some p):p∈(piecesT t).flatten/\p.ld=l:=by
 obtain⟨k,pl,h1,h2,h3⟩:=zco h;exact⟨List.mem_flatten.2 ⟨pl,yg h1,h2⟩,h3⟩
theorem parts_all {t:Tk} {l:List Ld} (h:∀ i,i<l.length->qaQ t l i=false):(parts t l).map (·.ld)=l/\∀ p∈parts t l,p∈(piecesT t).flatten:=by
 have hs:∀ x∈l,∃ p,findT t x=some p:=λ x hx=>by
  obtain⟨i,hi,rfl⟩:=List.getElem_of_mem hx;have:=h i hi;unfold qaQ at this;rw[yu,yb hi,Yw]at this
  cases hf:findT t l[i]with
  | none=>rw[hf]at this;cases this
  | some p=>exact⟨p,rfl⟩
 clear h;unfold parts
 induction l with
 | nil=>exact⟨rfl,λ p hp=>by cases hp⟩
 | cons x l ih =>
  obtain⟨p,hp⟩:=hs x (by simp);obtain⟨i1,i2⟩:=ih λ y hy=>hs y (by simp[hy]);rw[List.filterMap_cons,hp];obtain⟨f1,f2⟩:=qeq hp;refine⟨by simp only[yM];rw[f2,i1],λ q hq=>?_⟩;rcases Ye.1 hq with rfl|hq
  ·exact f1
  exact i2 q hq
theorem qe1 {t:Tk} (ho:OkT t) {l:List Ld} (h:coversT t l=(0,0)):FullT t (parts t l)/\(parts t l).map (·.ld)=l:=by
 unfold coversT at h;split at h
 ·rename_i i _;cases h
 rename_i h1;obtain⟨p1,p2⟩:=parts_all λ i hi=>zZ h1 hi;split at h
 ·cases h
 rename_i h2;split at h
 ·cases h
 rename_i h3;split at h
 ·cases h
 rename_i h4;split at h
 ·cases h
 rename_i h5;split at h
 ·cases h
 rename_i h6;split at h
 ·cases h
 rename_i h7;generalize parts t l=x at *;refine⟨⟨⟨⟨p2,?_⟩,?_,qhM λ k hk=>?_,?_⟩,λ f hf=>?_,λ e he=>?_⟩,p1⟩
 ·unfold ApartT;rw[List.pairwise_iff_getElem];intro i j hi hj hij q hq hq';have:=zZ h3 hj;unfold qaK at this;rw[List.any_eq_false]at this;refine this q (by rw[yu,yb hj];exact hq') (qaT.2 ⟨x[i],?_,hq⟩);exact List.mem_iff_getElem.2 ⟨i,by rw[Yf];omega,by rw[List.getElem_take]⟩
 ·unfold fullT;rw[List.all_eq_true];intro q hq;obtain⟨i,hi,rfl⟩:=List.getElem_of_mem hq;have:=zZ h4 hi;unfold qaE at this;rw[yu,yb hi,Yw]at this;simpa using this
 ·have:=zZ h5 hk;unfold zaE at this;simpa using this
 ·have A:∀ i,(hi:i+1<x.length)->leastP t.ground (x[i]'(by omega))<leastP t.ground x[i+1]:=λ i hi=>by
   have:=zZ h2 hi;unfold rule2 at this;rw[Nat.add_sub_cancel,yu,yb hi,yu,yb (by omega:i<x.length)]at this;simp at this;omega
  rw[List.pairwise_iff_getElem];intro i j hi hj hij;obtain⟨d,rfl⟩:∃ d,j=i+1+d:=⟨j-i-1,by omega⟩;clear hij
  induction d with
  | zero=>exact A i hj
  | succ d ih=>exact Nat.lt_trans (ih (by omega)) (A (i+1+d) hj)
 ·obtain⟨i,hi,rfl⟩:=List.getElem_of_mem hf;have:=zZ h6 hi;unfold qaR at this;rw[yu,yb hi,Yw]at this;rw[p1];simpa using this
 obtain⟨i,hi,rfl⟩:=List.getElem_of_mem he;have:=zZ h7 hi;unfold zaO at this;rwa [yu,yb hi,Yw]at this
def QuietT (t:Tk) (s:List Pc):Prop:=∀ e∈t.below,jointT s e=false
theorem zdQ {t:Tk} {s s':List Pc} {p:Pc} (h:QuietT t s) (h':putT t s p=some s'):QuietT t s':=by
 obtain⟨rfl,_,_,h3⟩:=zaW h';intro e he;rw[qcU,h e he,Bool.false_or];unfold clashT at h3;rw[List.any_eq_false]at h3;by_cases hm:e∈borderE p.qs
 ·have:=h3 e hm;rw[yw he,Bool.and_true]at this;rw[yw hm,Bool.and_true];simpa using this
 rw[yv hm,Bool.and_false]
theorem qcr {t:Tk}:∀ (f:Nat) {s x:List Pc},QuietT t s->x∈(searchT t f s).2->QuietT t x
 | 0,s,x,h,hx=>by
  unfold searchT at hx;simp only at hx;split at hx
  ·split at hx
   ·rw[yU]at hx;subst hx;exact h
   cases hx
  cases hx
 | f+1,s,x,h,hx=>by
  unfold searchT at hx;split at hx
  ·simp only at hx;split at hx
   ·rw[yU]at hx;subst hx;exact h
   cases hx
  rcases qbI hx with hx|⟨c,hc,hx⟩
  ·cases hx
  obtain⟨p,q,h1,h2,h3,h4⟩:=zaI hc;exact qcr f (zdQ h h4) hx
theorem qbY {t:Tk}:∀ (l:List Ld) {s s':List Pc},QuietT t s->l.foldl (stepR t) (some s)=some s'->QuietT t s'/\(∀ p∈s,p∈s')/\∀ f∈l,f∈s'.map (·.ld)
 | [],s,s',h,e=>by
  simp only[YD,yo]at e;subst e;exact⟨h,λ p hp=>hp,λ f hf=>by cases hf⟩
 | x :: l,s,s',h,e=>by
  rw[Yv]at e
  cases hx:stepR t (some s) x with
  | none=>rw[hx,zbp]at e;cases e
  | some s1 =>
   rw[hx]at e;unfold stepR at hx;simp only at hx;split at hx
   ·cases hx
   rename_i p hp;obtain⟨a1,a2,a3⟩:=qbY l (zdQ h hx) e;obtain⟨rfl,_⟩:=zaW hx;refine⟨a1,λ q hq=>a2 q (List.mem_append_left _ hq),λ f hf=>?_⟩;rcases Ye.1 hf with rfl|hf
   ·exact yP.2 ⟨p,a2 p (by simp),(qeq hp).2⟩
   exact a3 f hf
theorem zgO (t:Tk):QuietT t []:=λ e _=>by simp[jointT]
theorem full_of {t:Tk} (ho:OkT t) {x:List Pc} (hx:x∈(tilingsT t).1):FullT t x:=by
 have h:=qeb ho hx;unfold tilingsT at hx;split at hx
 ·cases hx
 rename_i s hs;split at hx
 ·split at hx
  ·cases hx
  simp only at hx;obtain⟨y,hy,rfl⟩:=yP.1 hx;obtain⟨r1,_,r3⟩:=qbY (t:=t) t.fixed (zgO t) hs;have hq:=qcr _ r1 hy;have hp:=zam t.ground y;refine⟨h,λ f hf=>?_,λ e he=>?_⟩
  ·obtain⟨p,hp1,hp2⟩:=yP.1 (r3 f hf);exact yP.2 ⟨p,hp.mem_iff.2 (qdh _ hy p hp1),hp2⟩
  have:=hq e he;unfold jointT at this ⊢;rwa [(hp.filter _).length_eq]
 cases hx
def nextT (t:Tk) (x:List Pc):List Ld × Nat:=if (tilingsT t).2.2≠0 then ([],(tilingsT t).2.2)else match (tilingsT t).1[match (tilingsT t).1.findIdx? (λ y=>decide (y=x))with|some i=>i+1|none=>0]? with
 | none=>([],7)
 | some y=>(y.map (·.ld),0)
def whyT (t:Tk):Nat × Nat:=match rootT t with
 | none=>(1,0)
 | some _=>if fitsT t then (if (tilingsT t).2.2≠0 then (0,(tilingsT t).2.2)else if (tilingsT t).1≠[]then (0,9)else (3,0))else (2,0)
theorem qdo {t:Tk} {l:List Ld} {k:Nat} {x:Ld} {p:Pc} (hx:l[k]?=some x) (hf:findT t x=some p):parts t (l.take (k+1))=parts t (l.take k)++[p]:=by
 unfold parts;rw[zl hx,List.filterMap_append];simp[hf]
theorem zeA {t:Tk} {l:List Ld} {i:Nat} {x:Ld} (hx:l[i]?=some x):qaQ t l i=(findT t x).isNone:=by
 unfold qaQ;rw[yu,hx];rfl
theorem zf5 (t:Tk) (T:List Pc):rule2 t T 0=false:=rfl
theorem qhg {t:Tk} {T:List Pc} {i:Nat} {p r:Pc} (hr:T[i]?=some r) (hp:T[i+1]?=some p):rule2 t T (i+1)=decide (leastP t.ground p<=leastP t.ground r):=by
 unfold rule2;rw[Nat.add_sub_cancel,yu,yu,hp,hr,yw (Nat.succ_pos i),Bool.true_and];rfl
theorem qg3 {T:List Pc} {i:Nat} {p:Pc} (hp:T[i]?=some p):qaK T i=p.qs.any (covT (T.take i)):=by
 unfold qaK;rw[yu,hp];rfl
theorem qhP {t:Tk} {T:List Pc} {i:Nat} {q:Q} (hq:t.ground[i]?=some q):qaE t T i=!covT T q:=by
 unfold qaE;rw[yu,hq];rfl
theorem zhw {t:Tk} {T:List Pc} {k:Nat} {c:Int} (hc:t.counts[k]?=some c):zaE t T k=decide (¬ (manyT T k:Int)=c):=by
 unfold zaE;rw[yu,hc];rfl
theorem zhd {t:Tk} {l:List Ld} {i:Nat} {x:Ld} (hx:t.fixed[i]?=some x):qaR t l i=decide (x∉l):=by
 unfold qaR;rw[yu,hx];rfl
theorem qhy {t:Tk} {T:List Pc} {i:Nat} {e:E} (he:t.below[i]?=some e):zaO t T i=jointT T e:=by
 unfold zaO;rw[yu,he];rfl
theorem qe0 {g:List Q} {L:List E} {s:List Pc} {p:Pc} (hin:∀ q∈p.qs,q∈g):setG (covT s) g &&& (hpT g L p).set=0↔p.qs.any (covT s)=false:=by
 show setG (covT s) g &&& setG (λ q=>decide (q∈p.qs)) g=0↔_;rw[qdc,qbP,List.any_eq_false];constructor
 ·intro h q hq hc;have:=h q (hin q hq);rw[hc,yw hq]at this
  cases this
 intro h q _;by_cases hq:q∈p.qs
 ·have:=h q hq;rw[Bool.not_eq_true]at this;rw[this];rfl
 rw[yv hq,Bool.and_false]
section
variable {t:Tk} {l:List Ld} {i:Nat}
theorem cov1 (hi:i<l.length) (hp:qaQ t l i=true) (h:∀ j,j<i->qaQ t l j=false):coversT t l=(1,i):=by
 unfold coversT;rw[zao hi hp h]
theorem cov2 (h1:∀ j,j<l.length->qaQ t l j=false) (hi:i<(parts t l).length) (hp:rule2 t (parts t l) i=true) (h:∀ j,j<i->rule2 t (parts t l) j=false):coversT t l=(2,i):=by
 unfold coversT;rw[qi h1];simp only;rw[zao hi hp h]
theorem cov3 (h1:∀ j,j<l.length->qaQ t l j=false) (h2:∀ j,j<(parts t l).length->rule2 t (parts t l) j=false) (hi:i<(parts t l).length) (hp:qaK (parts t l) i=true) (h:∀ j,j<i->qaK (parts t l) j=false):coversT t l=(3,i):=by
 unfold coversT;rw[qi h1];simp only;rw[qi h2];simp only;rw[zao hi hp h]
structure Cov3 (t:Tk) (l:List Ld):Prop where
 r1:∀ j,j<l.length->qaQ t l j=false
 r2:∀ j,j<(parts t l).length->rule2 t (parts t l) j=false
 r3:∀ j,j<(parts t l).length->qaK (parts t l) j=false
theorem cov4 (h3:Cov3 t l) (hi:i<t.ground.length) (hp:qaE t (parts t l) i=true) (h:∀ j,j<i->qaE t (parts t l) j=false):coversT t l=(4,i):=by
 unfold coversT;rw[qi h3.r1];simp only;rw[qi h3.r2];simp only;rw[qi h3.r3];simp only;rw[zao hi hp h]
theorem cov5 (h3:Cov3 t l) (h4:∀ j,j<t.ground.length->qaE t (parts t l) j=false) (hi:i<t.counts.length) (hp:zaE t (parts t l) i=true) (h:∀ j,j<i->zaE t (parts t l) j=false):coversT t l=(5,i):=by
 unfold coversT;rw[qi h3.r1];simp only;rw[qi h3.r2];simp only;rw[qi h3.r3];simp only;rw[qi h4];simp only;rw[zao hi hp h]
theorem cov6 (h3:Cov3 t l) (h4:∀ j,j<t.ground.length->qaE t (parts t l) j=false) (h5:∀ j,j<t.counts.length->zaE t (parts t l) j=false) (hi:i<t.fixed.length) (hp:qaR t l i=true) (h:∀ j,j<i->qaR t l j=false):coversT t l=(6,i):=by
 unfold coversT;rw[qi h3.r1];simp only;rw[qi h3.r2];simp only;rw[qi h3.r3];simp only;rw[qi h4];simp only;rw[qi h5];simp only;rw[zao hi hp h]
theorem cov7 (h3:Cov3 t l) (h4:∀ j,j<t.ground.length->qaE t (parts t l) j=false) (h5:∀ j,j<t.counts.length->zaE t (parts t l) j=false) (h6:∀ j,j<t.fixed.length->qaR t l j=false) (hi:i<t.below.length) (hp:zaO t (parts t l) i=true) (h:∀ j,j<i->zaO t (parts t l) j=false):coversT t l=(7,i):=by
 unfold coversT;rw[qi h3.r1];simp only;rw[qi h3.r2];simp only;rw[qi h3.r3];simp only;rw[qi h4];simp only;rw[qi h5];simp only;rw[qi h6];simp only;rw[zao hi hp h]
theorem cov0 (h3:Cov3 t l) (h4:∀ j,j<t.ground.length->qaE t (parts t l) j=false) (h5:∀ j,j<t.counts.length->zaE t (parts t l) j=false) (h6:∀ j,j<t.fixed.length->qaR t l j=false) (h7:∀ j,j<t.below.length->zaO t (parts t l) j=false):coversT t l=(0,0):=by
 unfold coversT;rw[qi h3.r1];simp only;rw[qi h3.r2];simp only;rw[qi h3.r3];simp only;rw[qi h4];simp only;rw[qi h5];simp only;rw[qi h6];simp only;rw[qi h7]
end
def withB (t:Tk) (js:List E):Tk:=⟨t.ground,t.kinds,t.counts,t.fixed,js⟩
theorem qcV (t:Tk) (js:List E) (x:Ld):findT (withB t js) x=findT t x:=rfl
theorem zo (t:Tk) (js:List E) (l:List Ld):parts (withB t js) l=parts t l:=rfl
def ovP (g:List Q) (P R:E->Bool):Bool:=(edgesL g).all λ e=>!(P e&&R e)
def canRow (g:List Q) (Ts:List (List Pc)):Nat->List Bool
 | 0=>Ts.map λ _=>true
 | d+1=>Ts.map λ s=>(Ts.zip (canRow g Ts d)).any λ x=>x.2&&ovP g (jointT x.1) (jointT s)
def pickT (g:List Q) (Ts:List (List Pc)) (row:List Bool) (P:E->Bool):Option (List Pc):=((Ts.zip row).find? λ x=>x.2&&ovP g (jointT x.1) P).map (·.1)
def planT (g:List Q) (Ts:List (List Pc)):Nat->(E->Bool)->Option (List (List Pc))
 | 0,_=>some []
 | d+1,P=>match pickT g Ts (canRow g Ts d) P with
  | none=>none
  | some x=>(planT g Ts d (jointT x)).map (x :: ·)
def layersT (t:Tk) (n:Nat):List (List Ld) × Nat :=
 if (tilingsT (withB t [])).2.2≠0 then ([],(tilingsT (withB t [])).2.2)else if 1000<(tilingsT (withB t [])).1.length then ([],8)else
 match planT t.ground (tilingsT (withB t [])).1 n (λ e=>decide (e∈t.below))with
 | none=>([],7)
 | some x=>(x.map λ T=>T.map (·.ld),0)
theorem zfO {g:List Q} {Ts:List (List Pc)} {d:Nat} {P:E->Bool} {x:List Pc} (h:pickT g Ts (canRow g Ts d) P=some x):planT g Ts (d+1) P=(planT g Ts d (jointT x)).map (x :: ·):=by
 show (match pickT g Ts (canRow g Ts d) P with
  | none=>none
  | some x=>(planT g Ts d (jointT x)).map (x :: ·))=_
 rw[h]
theorem za9 {t:Tk} (h:OkT t):OkT (withB t []) :=
 ⟨h.ground,h.g64,h.kinds,h.kind16,h.klen,h.clen,h.cnt,h.csum,h.fixed,YC _,λ e he=>(by cases he),List.Pairwise.nil⟩
theorem zcJ {g:List Q} (hq:∀ q∈g,inQ q) {L:List E} (hL:LOk g L) (P R:E->Bool):ovP g P R=true↔∀ e∈L,(P e&&R e)=false:=by
 unfold ovP;rw[List.all_eq_true];constructor
 ·intro h e he;have:=h e ((qah hq e).2 ((hL.mem e).1 he));simpa only[Bool.not_eq_true']using this
 intro h e he;have:=h e ((hL.mem e).2 ((qah hq e).1 he));simpa only[Bool.not_eq_true']using this
theorem zhO {g:List Q} (hq:∀ q∈g,inQ q) {L:List E} (hL:LOk g L) (h192:L.length<=192) (P R:E->Bool):andW (wordsE P L) (wordsE R L)=(0,0,0)↔ovP g P R=true:=by
 rw[qa5,qbf h192,zcJ hq hL]
theorem qhh (g:List Q) (P R:E->Bool):ovP g P R=ovP g R P:=by
 unfold ovP;congr 1
 funext e
 rw[Bool.and_comm]
theorem zal (g:List Q) (Ts:List (List Pc)) (d:Nat):(canRow g Ts d).length=Ts.length:=by cases d <;> simp[canRow]
def CanG (g:List Q) (Ts:List (List Pc)) (d:Nat) (x:List Pc):Prop:=∃ k:Nat,Ts[k]?=some x/\(canRow g Ts d)[k]?=some true
theorem qeu {g:List Q} {Ts:List (List Pc)} {x:List Pc} (h:x∈Ts):CanG g Ts 0 x:=by
 obtain⟨k,hk⟩:=yV h;exact⟨k,hk,by simp[canRow,hk]⟩
theorem CanG.mem {g:List Q} {Ts:List (List Pc)} {d:Nat} {x:List Pc} (h:CanG g Ts d x):x∈Ts:=by
 obtain⟨k,hk,_⟩:=h;exact yg hk
theorem qbW {g:List Q} {Ts:List (List Pc)} {d:Nat} {x:List Pc} {b:Bool}:(x,b)∈Ts.zip (canRow g Ts d)↔∃ k:Nat,Ts[k]?=some x/\(canRow g Ts d)[k]?=some b:=by
 rw[List.mem_iff_getElem?];constructor
 ·rintro⟨k,hk⟩;rw[List.getElem?_zip_eq_some]at hk;exact⟨k,hk.1,hk.2⟩
 rintro⟨k,h1,h2⟩;exact⟨k,List.getElem?_zip_eq_some.2 ⟨h1,h2⟩⟩
theorem zc5 {g:List Q} {Ts:List (List Pc)} {d:Nat} {x:List Pc}:CanG g Ts (d+1) x↔x∈Ts/\∃ y,CanG g Ts d y/\ovP g (jointT y) (jointT x)=true:=by
 constructor
 ·rintro⟨k,hk,hr⟩;refine⟨yg hk,?_⟩;unfold canRow at hr;rw[yQ,hk,Option.map_some,yo,List.any_eq_true]at hr;obtain⟨⟨y,b⟩,hy,hb⟩:=hr;simp only[Yr]at hb;obtain⟨rfl,hov⟩:=hb;exact⟨y,qbW.1 hy,hov⟩
 rintro⟨hx,y,hy,hov⟩;obtain⟨k,hk⟩:=yV hx;refine⟨k,hk,?_⟩;unfold canRow;rw[yQ,hk,Option.map_some,yo,List.any_eq_true];exact⟨(y,true),qbW.2 hy,by rw[hov];rfl⟩
theorem qea {g:List Q} {Ts:List (List Pc)} {d:Nat} {P:E->Bool} {x:List Pc} (h:pickT g Ts (canRow g Ts d) P=some x):CanG g Ts d x/\ovP g (jointT x) P=true:=by
 unfold pickT at h;rw[Option.map_eq_some_iff]at h;obtain⟨⟨y,b⟩,h1,rfl⟩:=h;have h2:=List.find?_some h1;simp only[Yr]at h2;obtain⟨rfl,hov⟩:=h2;exact⟨qbW.1 (List.mem_of_find?_eq_some h1),hov⟩
theorem zfs {g:List Q} {Ts:List (List Pc)} {d:Nat} {P:E->Bool} {x:List Pc} (h:CanG g Ts d x) (hov:ovP g (jointT x) P=true):∃ y,pickT g Ts (canRow g Ts d) P=some y:=by
 unfold pickT
 cases hf:(Ts.zip (canRow g Ts d)).find? (λ x=>x.2&&ovP g (jointT x.1) P)with
 | some y=>exact⟨y.1,rfl⟩
 | none =>
  rw[List.find?_eq_none]at hf;have:=hf (x,true) (qbW.2 h);simp[hov]at this
theorem qhT {g:List Q} {Ts:List (List Pc)} (d:Nat):∀ {P:E->Bool} {x:List Pc},CanG g Ts d x->ovP g (jointT x) P=true->∃ l,planT g Ts (d+1) P=some l:=by
 induction d with
 | zero =>
  intro P x h hov;obtain⟨y,hy⟩:=zfs h hov;exact⟨[y],by unfold planT;rw[hy];rfl⟩
 | succ d ih =>
  intro P x h hov;obtain⟨y,hy⟩:=zfs h hov;obtain⟨hc,hv⟩:=qea hy;obtain⟨_,z,hz,hzo⟩:=zc5.1 hc;obtain⟨l,hl⟩:=ih hz hzo;exact⟨y :: l,by unfold planT;rw[hy];simp only;rw[hl];rfl⟩
theorem zce {g:List Q} {Ts:List (List Pc)}:∀ {n:Nat} {P:E->Bool} {l:List (List Pc)},planT g Ts n P=some l->l.length=n/\(∀ x∈l,x∈Ts)/\(∀ x,l[0]?=some x->ovP g (jointT x) P=true)/\∀ (i:Nat) (x y:List Pc),l[i]?=some x->l[i+1]?=some y->ovP g (jointT y) (jointT x)=true
 | 0,P,l,h=>by
  unfold planT at h
  cases h
  exact⟨rfl,λ x hx=>(by cases hx),λ x hx=>by simp at hx,λ i x y hx=>by simp at hx⟩
 | d+1,P,l,h=>by
  unfold planT at h;split at h
  ·cases h
  rename_i x hx;rw[Option.map_eq_some_iff]at h;obtain⟨m,hm,rfl⟩:=h;obtain⟨h1,h2,h3,h4⟩:=zce hm;obtain⟨hc,hv⟩:=qea hx;refine⟨by rw[yA,h1],λ y hy=>?_,λ y hy=>?_,λ i y z hy hz=>?_⟩
  ·rcases Ye.1 hy with rfl|hy
   ·exact hc.mem
   exact h2 y hy
  ·simp at hy;subst hy;exact hv
  cases i with
  | zero=>simp at hy hz;subst hy;exact h3 z (by simpa using hz)
  | succ i=>exact h4 i y z (by simpa using hy) (by simpa using hz)
theorem qgl {g:List Q} {Ts:List (List Pc)} {n:Nat} {P:E->Bool} {l:List (List Pc)} (h:planT g Ts (n+2) P=some l) (m:Nat):∃ l',planT g Ts m P=some l':=by
 obtain⟨h1,h2,h3,h4⟩:=zce h;obtain⟨x,hx⟩:∃ x,l[0]?=some x:=⟨_,yb (by omega)⟩;obtain⟨y,hy⟩:∃ y,l[1]?=some y:=⟨_,yb (by omega)⟩;have hxy:=h4 0 x y hx hy;have hxm:=h2 x (yg hx);have hym:=h2 y (yg hy);have both:∀ d,CanG g Ts d x/\CanG g Ts d y:=λ d=>by
  induction d with
  | zero=>exact⟨qeu hxm,qeu hym⟩
  | succ d ih=>exact⟨zc5.2 ⟨hxm,y,ih.2,hxy⟩,zc5.2 ⟨hym,x,ih.1,by rw[qhh];exact hxy⟩⟩
 cases m with
 | zero=>exact⟨[],rfl⟩
 | succ m=>exact qhT m (both m).1 (h3 x hx)
def canP (g:List Q) (Ts:List (List Pc)) (n d k:Nat):List (List Bool):=(List.range n).map λ i=>if i<d then canRow g Ts i else if i=d then (canRow g Ts d).take k else []
theorem qgu (g:List Q) (Ts:List (List Pc)) (n:Nat):canP g Ts n 0 0=List.replicate n []:=by
 refine List.ext_getElem (by simp[canP]) λ i h1 h2=>?_;simp only[canP,List.getElem_map,List.getElem_range,List.getElem_replicate,Nat.not_lt_zero,if_false,yj];split <;> rfl
theorem zge (g:List Q) (Ts:List (List Pc)) (n d:Nat):canP g Ts n d Ts.length=canP g Ts n (d+1) 0:=by
 unfold canP;refine List.map_congr_left λ i _=>?_;rw[show (canRow g Ts d).take Ts.length=canRow g Ts d from List.take_of_length_le (by rw[zal];exact ye _)];by_cases h1:i<d
 ·rw[YA h1,YA (by omega)]
 rw[Yz h1];by_cases h2:i=d
 ·subst h2;rw[YA rfl,YA (by omega)]
 rw[Yz h2,Yz (by omega)];split <;> simp
theorem zeD {g:List Q} {Ts:List (List Pc)} {n d k i:Nat} (hi:i<d) (hn:i<n):(canP g Ts n d k)[i]?=some (canRow g Ts i):=by
 unfold canP;rw[yQ,List.getElem?_range hn,Option.map_some,YA hi]
theorem zd5 {g:List Q} {Ts:List (List Pc)} {n d k:Nat} (hn:d<n):(canP g Ts n d k)[d]?=some ((canRow g Ts d).take k):=by
 unfold canP;rw[yQ,List.getElem?_range hn,Option.map_some,Yz (Nat.lt_irrefl _),YA rfl]
theorem zhs {g:List Q} {Ts:List (List Pc)} {n d k:Nat} {b:Bool} (hb:(canRow g Ts d)[k]?=some b):(canP g Ts n d k).set d ((canRow g Ts d).take k++[b])=canP g Ts n d (k+1):=by
 refine List.ext_getElem (by simp[canP]) λ i h1 h2=>?_;rw[List.getElem_set];simp only[canP,List.getElem_map,List.getElem_range];by_cases e:d=i
 ·subst e;rw[YA rfl,Yz (Nat.lt_irrefl _),YA rfl,List.take_add_one,hb];rfl
 rw[Yz e];by_cases h:i<d
 ·rw[YA h,YA h]
 rw[Yz h,Yz h,Yz (λ h=>e h.symm),Yz (λ h=>e h.symm)]
def okP (g:List Q) (Ts:List (List Pc)) (d k j:Nat):Bool:=match d with
 | 0=>true
 | d+1=>((Ts.zip (canRow g Ts d)).take j).any λ x=>x.2&&ovP g (jointT x.1) (jointT (Ts.getD k []))
theorem zhC (g:List Q) (Ts:List (List Pc)) (d k:Nat):okP g Ts d k 0=decide (d=0):=by
 cases d with
 | zero=>rfl
 | succ d=>simp[okP]
theorem zhe {g:List Q} {Ts:List (List Pc)} {d k j:Nat} {x y:List Pc} {c:Bool} (hx:Ts[j]?=some x) (hc:(canRow g Ts d)[j]?=some c) (hy:Ts[k]?=some y):okP g Ts (d+1) k (j+1)=(okP g Ts (d+1) k j||(c&&ovP g (jointT x) (jointT y))):=by
 unfold okP;simp only;have hz:(Ts.zip (canRow g Ts d))[j]?=some (x,c):=List.getElem?_zip_eq_some.2 ⟨hx,hc⟩;rw[List.take_add_one,hz,List.any_append,yu,hy];simp
theorem zhY {g:List Q} {Ts:List (List Pc)} {d k j:Nat} (hk:k<Ts.length) (h:okP g Ts d k j=true\/j=Ts.length):(canRow g Ts d)[k]?=some (okP g Ts d k j):=by
 obtain⟨y,hy⟩:∃ y,Ts[k]?=some y:=⟨_,yb hk⟩
 cases d with
 | zero=>simp[canRow,okP,hy]
 | succ d =>
  unfold canRow;rw[yQ,hy,Option.map_some];congr 1;unfold okP at h ⊢;simp only at h ⊢;rw[yu,hy,Yw]at h ⊢;rcases h with h|rfl
  ·rw[h,List.any_eq_true];rw[List.any_eq_true]at h;obtain⟨z,hz,hzz⟩:=h;exact⟨z,Yy hz,hzz⟩
  rw[List.take_of_length_le (by rw[List.length_zip];omega)]
theorem zhX {g:List Q} {Ts:List (List Pc)} {d i:Nat} {P:E->Bool} {x:List Pc} (hx:Ts[i]?=some x) (hc:(canRow g Ts d)[i]?=some true) (hov:ovP g (jointT x) P=true)
  (h:∀ (j:Nat) (y:List Pc) (c:Bool),j<i->Ts[j]?=some y->(canRow g Ts d)[j]?=some c->(c&&ovP g (jointT y) P)=false):pickT g Ts (canRow g Ts d) P=some x:=by
 unfold pickT;have hz:(Ts.zip (canRow g Ts d))[i]?=some (x,true):=List.getElem?_zip_eq_some.2 ⟨hx,hc⟩;have:(Ts.zip (canRow g Ts d)).find? (λ x=>x.2&&ovP g (jointT x.1) P)=some (x,true):=by
  rw[List.find?_eq_some_iff_getElem];obtain⟨hi,he⟩:=yc.1 hz;refine⟨by simp[hov],i,hi,he,λ j hj=>?_⟩;have A:(Ts.zip (canRow g Ts d))[j]?=some (Ts.zip (canRow g Ts d))[j]:=yb (by omega);obtain⟨a,b⟩:=List.getElem?_zip_eq_some.1 A;simp only[h j _ _ hj a b,Bool.not_false]
 rw[this];rfl
theorem qgB {g:List Q} {Ts:List (List Pc)} {d:Nat} {P:E->Bool} (h:∀ (j:Nat) (y:List Pc) (c:Bool),Ts[j]?=some y->(canRow g Ts d)[j]?=some c->(c&&ovP g (jointT y) P)=false):pickT g Ts (canRow g Ts d) P=none:=by
 unfold pickT;rw[Option.map_eq_none_iff,List.find?_eq_none];rintro⟨x,b⟩ hx;obtain⟨k,h1,h2⟩:=qbW.1 hx;rw[h k x b h1 h2];decide
theorem zcA {t:Tk} (ho:OkT t) {i:Nat} {x:List Pc} (h:(tilingsT t).1[i]?=some x):FullT t x/\parts t (x.map (·.ld))=x/\coversT t (x.map (·.ld))=(0,0)/\x.length<=16:=by
 have hx:=full_of ho (yg h);exact⟨hx,qbO hx.good.mem,qfi ho hx,zeI ho hx.toTlT⟩
section
variable {P:Program}
theorem qe8 {id:Nat} {Q:Exit->Act->World->Prop} {a:Act} {w:World} {o0 o1 o2 o3 o4:Oper} {T U:TypeId} {dm d0 d1:Nat} {x y p q:Operand} {cT cU oT oU:Array Value} {v c0:Value} {bT bU bX:Nat} {dU:TypeDesc}
  (hm:P.follows .mixedOrders=true) (hB:gB #[o0,o1,o2,o3,o4] [3,4] [0,0,1,0,0]=true)
  (e0:o0.op=.move y) (g0:o0.guard=none) (t0:o0.dst=some dm)
  (e1:o1.op=.build T #[(0,.const c0),(1,.tmp dm)]) (g1:o1.guard=none) (t1:o1.dst=some d0)
  (e2:o2.op=.load U x) (g2:o2.guard=none) (t2:o2.dst=some d1)
  (e3:o3.op=.store T p (.tmp d0)) (g3:o3.guard=none) (t3:o3.dst=none)
  (e4:o4.op=.store U q (.tmp d1)) (g4:o4.guard=none) (t4:o4.dst=none)
  (hy:a.eval y=v) (hbuilt:P.built T [(0,c0),(1,v)]=some cT) (hdm:dm<a.tmps.size) (hd0:d0<a.tmps.size) (hd1:d1<a.tmps.size) (hne:d1≠d0)
  (hx:((a.put (some dm) v).put (some d0) (.agg cT)).eval x=.pointer (some ⟨bX,0,none⟩))
  (hp:(((a.put (some dm) v).put (some d0) (.agg cT)).put (some d1) (.agg cU)).eval p=.pointer (some ⟨bT,0,none⟩))
  (hq:(((a.put (some dm) v).put (some d0) (.agg cT)).put (some d1) (.agg cU)).eval q=.pointer (some ⟨bU,0,none⟩))
  (hgX:w.heap[bX]?=some (.cells cU U (0,0))) (hgT:w.heap[bT]?=some (.cells oT T (0,0))) (hgU:w.heap[bU]?=some (.cells oU U (0,0)))
  (hxt:bX≠bT) (hut:bU≠bT) (hu:P.underlying U=some dU) (hrow:dU.isRow=true)
  (hiT:(P.info? T).map (·.size)=some cT.size) (hiU:(P.info? U).map (·.size)=some cU.size) (hoT:oT.size=cT.size) (hoU:oU.size=cU.size)
  (h1T:cT.all (·.oneCell')=true) (h1U:cU.all (·.oneCell')=true)
  (h:Q .normal (((a.put (some dm) v).put (some d0) (.agg cT)).put (some d1) (.agg cU)) (((w.drewN 1).setRow bT cT).setRow bU cU)) :
  (Code.region id #[o0,o1,o2,o3,o4] true).wp P Q a w:=by
 have A:=(setRow_other (w.drewN 1) bT bU cT hut).trans hgU;have B:=(setRow_other (w.drewN 1) bT bX cT hxt).trans hgX;have w0:∀ b:Act,Region.wanted o0 (yielded #[o0,o1,o2,o3,o4] b.tmps)=true:=λ b=>by simp[Region.wanted,g0]
 have w1:∀ b:Act,Region.wanted o1 (yielded #[o0,o1,o2,o3,o4] b.tmps)=true:=λ b=>by simp[Region.wanted,g1]
 have w2:∀ b:Act,Region.wanted o2 (yielded #[o0,o1,o2,o3,o4] b.tmps)=true:=λ b=>by simp[Region.wanted,g2]
 refine qcj (l:=[o0,o1,o2,o3,o4]) [3,4] [0,0,1,0,0] hm hB (λ m w'=>match m with|0=>∃ n,w'=w.drewN n|1=>∃ n,w'=((w.drewN 1).setRow bT cT).drewN n|_=>True) ⟨1,rfl⟩ ?_;refine zaX (by rfl) (by rfl) (by rw[e0];rfl) ?_;unfold wpQuiet;rw[YA (w0 a)];refine⟨v,λ w' _=>?_,?_⟩
 ·unfold Oper.quietAt execOp;simp only[e0,yH,hy];exact⟨rfl,rfl⟩
 refine wpQuiet_nil ?_;rw[t0];refine zaX (by rfl) (by rfl) (by rw[e1];rfl) ?_;unfold wpQuiet;rw[YA (w1 _)];refine⟨.agg cT,λ w' _=>?_,?_⟩
 ·unfold Oper.quietAt execOp;have hv:(a.put (some dm) v).eval (.tmp dm)=v:=eval_put_same hdm v;have hb:(Instr.build T ((#[(0,Operand.const c0),(1,Operand.tmp dm)]:Array (Nat × Operand)).map λ (i,x)=>(i,(a.put (some dm) v).eval x))).run P w'=.ok (.agg cT) w':=run_build w' T _ cT (by
   rw[<- hbuilt];simp only[Yu,yM,Yi,hv];rfl)
  simp only[e1,yG,hb,yz,yH];exact⟨rfl,rfl⟩
 refine wpQuiet_nil ?_;rw[t1];refine qbh (by rfl) (by decide) (by rw[e2];rfl) g2 ?_;unfold wpQuiet;rw[YA (w2 _)];have hl:∀ W:World,W.heap[bX]?=some (.cells cU U (0,0))->(Instr.loadAt U (.pointer (some ⟨bX,0,none⟩))).run P W=.ok (.agg cU) W:=λ W hW=>by
  have:=run_loadVar_row (P:=P) W bX U U cU (0,0) _ hW hu (by cases dU <;> simp_all) hiU
  simp only[Instr.loadAt,Instr.sureAddr,yG,yH,yz,this]
 refine qF U x e2 hx (by rintro W ⟨n,rfl⟩;exact hl _ hgX) ?_;refine wpQuiet_nil ?_;unfold wpQuiet;rw[YA (w2 _)];refine qF U x e2 hx (by rintro W ⟨n,rfl⟩;exact hl _ B) ?_;refine wpQuiet_nil ⟨rfl,?_⟩;rw[t2];refine zaa (by rfl) (zaa (by rfl) (zaU ?_));have C:(((a.put (some dm) v).put (some d0) (.agg cT)).put (some d1) (.agg cU)).eval (.tmp d0)=.agg cT:=by
  simp[Act.put,Act.eval,hd0,Array.getElem?_setIfInBounds,hne]
 have D:(((a.put (some dm) v).put (some d0) (.agg cT)).put (some d1) (.agg cU)).eval (.tmp d1)=.agg cU:=by
  simp[Act.put,Act.eval,hd1,Array.getElem?_setIfInBounds]
 refine qK (o:=o3) rfl g3 e3 hp C (w':=(w.drewN 1).setRow bT cT) ?_ ⟨0,rfl⟩ ?_
 ·simp only[Instr.storeAt,Instr.sureAddr,yG,yH,yz];exact run_storeVar_row (P:=P) (w.drewN 1) bT T T _ cT hgT hiT hoT h1T
 rw[t3];refine qK (o:=o4) rfl g4 e4 hq D (w':=((w.drewN 1).setRow bT cT).setRow bU cU) ?_ trivial ?_
 ·simp only[Instr.storeAt,Instr.sureAddr,yG,yH,yz];exact run_storeVar_row (P:=P) _ bU U U _ cU A hiU hoU h1U
 rw[t4];exact zax h
end
theorem qda {W:World} {p:Option Addr} {n c:Nat} {l:List Ld} (h:RL.Has W (.slice p n c) l) {j:Nat} {e:Ld} (he:l[j]?=some e):∃ a,p=some a/\W.cell? (a.add (j*5))=some (.int .i64 e.kind)/\W.cell? { block:=(a.add (j*5)).block,off:=(a.add (j*5)).off+1 }=some (.bool e.m)/\W.cell? { block:=(a.add (j*5)).block,off:=(a.add (j*5)).off+2 }=some (.int .i64 e.t) /\
  W.cell? { block:=(a.add (j*5)).block,off:=(a.add (j*5)).off+3 }=some (.int .i64 e.x)/\W.cell? { block:=(a.add (j*5)).block,off:=(a.add (j*5)).off+4 }=some (.int .i64 e.y):=by
 rcases h with⟨_,h⟩|⟨a,cap,h1,_,_,h4⟩
 ·subst h;simp at he
 ·simp only[yC]at h1;have ex:∀ (x:Addr) (n:Nat),0<n->x.add n={ block:=x.block,off:=x.off+n }:=λ x n hn=>by unfold Addr.add;rw[Yz (by omega)]
  have e0:=h4.at_ j e he 0 (.int .i64 e.kind) rfl;have e1:=h4.at_ j e he 1 (.bool e.m) rfl;have e2:=h4.at_ j e he 2 (.int .i64 e.t) rfl;have e3:=h4.at_ j e he 3 (.int .i64 e.x) rfl;have e4:=h4.at_ j e he 4 (.int .i64 e.y) rfl;rw[<- qE,ex _ 1 (by decide)]at e1;rw[<- qE,ex _ 2 (by decide)]at e2;rw[<- qE,ex _ 3 (by decide)]at e3;rw[<- qE,ex _ 4 (by decide)]at e4;exact⟨a,h1.1,e0,e1,e2,e3,e4⟩
theorem zic (l:List Ld) (v:Value) (x:Ld) (w:World) (hv:RL.Has w v l) (hl:l.length<=1000000) :
  Calls Tryz.prog 137 #[v,.agg (ldVals x).toArray] w λ e w'=>∃ r:Int,e=.returned (.int .i64 r)/\(0<=r↔x∈l)/\Bw w w':=by
 obtain⟨p,c,rfl⟩:=hv.slice;have hX:=yd w (.cells (ldVals x).toArray 50);have hB:Bw w (w.alloc (.cells (ldVals x).toArray 50)):=(yf _ w).alloc (ye _) _;have F:=hv.below hB;have HV:=yK F;clear hv F;go_enter Tryz.func137,Tryz.ntmps137;go_upto_region 1 with fail;revert hX hB HV;generalize w.alloc (.cells (ldVals x).toArray 50)=w1;intro hX hB HV;have HX:=yK hX;clear hX;have HB:=yK hB;clear hB;go_wp2_with fail;go_loopw [8] (λ z wr=>∃ i:Nat,i<=l.length/\z=.int .i64 i/\Hid (Bw w1 wr/\∀ (j:Nat) (y:Ld),j<i->l[j]?=some y->x≠y)) (λ z _=>l.length-(intOf z).toNat)
 case atStart=>exact⟨0,by omega,rfl,yK ⟨yf _ _,λ j y hj=>absurd hj (by omega)⟩⟩
 case round =>
  obtain⟨i,hi,rfl,HR⟩:=hrel;by_cases hlt:i<l.length
  case neg =>
   obtain rfl:i=l.length:=(by omega);have A:=yK (HB.o.tm HR.o.1);go_wp2_with fail;go_ret;refine⟨-1,rfl,⟨λ h=>absurd h (by decide),λ h=>?_⟩,A.o⟩;obtain⟨j,hj,e⟩:=List.getElem_of_mem h;exact absurd e.symm (HR.o.2 j _ hj (yb hj))
  obtain⟨y,hy⟩:∃ y,l[i]?=some y:=⟨_,yb hlt⟩;obtain⟨a,rfl,d0,d1,d2,d3,d4⟩:=qda (HV.o.below HR.o.1) hy;have hb:=(HR.o.1.block _ (ya.1 HX.o).1).trans HX.o;have HY:=yK hy;clear hy;have B:=qbg x y;obtain⟨xk,xm,xt,xx,xy⟩:=x;obtain⟨yk,ym,yt,yx,yy⟩:=y;simp only[ldVals]at B d0 d1 d2 d3 d4;have c0:wr.cell? ⟨w.heap.size,0,none⟩=some (.int .i64 xk):=by simp[World.cell?,hb,ldVals]
  have c1:wr.cell? ⟨w.heap.size,1,none⟩=some (.bool xm):=by simp[World.cell?,hb,ldVals]
  have c2:wr.cell? ⟨w.heap.size,2,none⟩=some (.int .i64 xt):=by simp[World.cell?,hb,ldVals]
  have c3:wr.cell? ⟨w.heap.size,3,none⟩=some (.int .i64 xx):=by simp[World.cell?,hb,ldVals]
  have c4:wr.cell? ⟨w.heap.size,4,none⟩=some (.int .i64 xy):=by simp[World.cell?,hb,ldVals]
  clear hb;by_cases hxy:(⟨xk,xm,xt,xx,xy⟩:Ld)=⟨yk,ym,yt,yx,yy⟩
  case pos =>
   have C:decide ((⟨xk,xm,xt,xx,xy⟩:Ld)=⟨yk,ym,yt,yx,yy⟩)=true:=yw hxy;simp only[C]at B;have D:=yK hxy;clear hxy C;go_upto_region 4 with fail;refine zt 6 (by kernel_rfl) (by kernel_rfl) ?_;simp only[yh,yj,yi,yl]
   repeat (go_big_quiet_step (fail))
   refine wpQuiet_nil ?_;intro nq;have A:=yK (HB.o.trans ((HR.o.1.trans ((below_drewN _ wr nq).mono HR.o.1.size)).mono HB.o.size));clear c0 c1 c2 c3 c4 d0 d1 d2 d3 d4 B HR;revert A;generalize wr.drewN nq=wu;intro A;clear nq;go_wp2_with fail;go_ret;exact⟨(i:Int),rfl,⟨λ _=>by rw[D.o];exact yg HY.o,λ _=>by omega⟩,A.o⟩
  have C:decide ((⟨xk,xm,xt,xx,xy⟩:Ld)=⟨yk,ym,yt,yx,yy⟩)=false:=yv hxy;simp only[C]at B;have D:=yK hxy;clear hxy C;go_upto_region 4 with fail;refine zt 6 (by kernel_rfl) (by kernel_rfl) ?_;simp only[yh,yj,yi,yl]
  repeat (go_big_quiet_step (fail))
  refine wpQuiet_nil ?_;intro nq;have HN:Hid (Bw w1 (wr.drewN nq)/\∀ (j:Nat) (y:Ld),j<i+1->l[j]?=some y->(⟨xk,xm,xt,xx,xy⟩:Ld)≠y):=yK ⟨HR.o.1.trans ((below_drewN _ wr nq).mono HR.o.1.size),λ j y hj h=>by
   rcases (by omega:j<i\/j=i)with h1|rfl
   ·exact HR.o.2 j y h1 h
   rw[HY.o]at h;cases h;exact D.o⟩
  clear c0 c1 c2 c3 c4 d0 d1 d2 d3 d4 B HR D;revert HN;generalize wr.drewN nq=wu;intro HN;clear nq;go_wp2_with fail
  go_roundw
  case rel=>exact⟨i+1,by omega,by go_num,HN⟩
  case measure=>simp[intOf];omega
theorem zfB (l:List Ld) (v:Value) (x:Ld) (w:World) (hv:RL.Has w v l) (hl:l.length<=1000000) :
  Calls Tryz.prog 111 #[v,.agg (ldVals x).toArray] w λ e w'=>e=.returned (.bool (decide (x∈l)))/\Bw w w':=by
 obtain⟨p,c,rfl⟩:=hv.slice;have hX:=yd w (.cells (ldVals x).toArray 50);have hB:Bw w (w.alloc (.cells (ldVals x).toArray 50)):=(yf _ w).alloc (ye _) _;have A:=hv.below hB;go_enter Tryz.func111,Tryz.ntmps111;go_upto_region 1 with fail;revert hX hB A;generalize w.alloc (.cells (ldVals x).toArray 50)=w1;intro hX hB A;have C:=yK (zic l _ x w1 A hl);clear A hv;have B:(Tryz.prog.info? 50).map (·.size)=some (ldVals x).toArray.size:=sizeL;have HB:=yK hB;clear hB;go_wp2_with (refine Yb rfl 50 _ rfl w.heap.size rfl 50 (ldVals x).toArray (0,0) _ hX Tryz.underlying50 rfl B ?_);refine C.o.mono ?_;rintro e w2 ⟨r,rfl,hr,hb⟩;have HD:Hid (decide (x∈l)=decide (0<=r)):=yK (decide_eq_decide.2 hr.symm);have D:=yK (HB.o.tm hb);clear hX hr hb C B;go_wp2_with fail;go_ret;exact⟨by rw[HD.o];rfl,D.o⟩
end Go.Proofs.YtiinlplgloaanaaGreatDoor
