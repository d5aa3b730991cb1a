/- own: the quarters that have each edge. -/
import Derived.Test.YtiinlplgloaanaaGreatDoorZzLayerTouches28
set_option linter.all false
set_option maxRecDepth 100000
set_option maxHeartbeats 4000000
namespace Go.Proofs.YtiinlplgloaanaaGreatDoor
open Go.Proofs.Tryz Go.RowKit
attribute [local go_sem] Oper.semAt_some
def addE (M:List (E × List Q)) (e:E) (q:Q):List (E × List Q) :=
 match M with
 | []=>[(e,[q])]
 | m :: M=>if m.1=e then(e,m.2++[q]) :: M else m :: addE M e q
def addQ (M:List (E × List Q)) (q:Q):List (E × List Q):=(edgesQ q).foldl (λ M e=>addE M e q) M
def ownL (M:List (E × List Q)) (l:List Q):List (E × List Q):=l.foldl addQ M
theorem im {M1 M2:List (E × List Q)} {e:E} {l:List Q} (h:∀ m∈M1,m.1≠e) (q:Q):addE (M1++(e,l) :: M2) e q=M1++(e,l++[q]) :: M2:=by
 induction M1 with
 | nil=>simp[addE]
 | cons m M1 ih =>
  have A:=h m (by simp);simp only[Yf,addE,Yy A];rw[ih (λ m hm=>h m (by simp[hm]))]
theorem fm {M:List (E × List Q)} {e:E} (h:∀ m∈M,m.1≠e) (q:Q):addE M e q=M++[(e,[q])]:=by
 induction M with
 | nil=>rfl
 | cons m M ih =>
  have A:=h m (by simp);simp only[Yf,addE,Yy A];rw[ih (λ m hm=>h m (by simp[hm]))]
theorem Bi {M:List (E × List Q)} {e:E} {q:Q} {N:Nat} (h:∀ m∈M,m.2.length<=N):∀ m∈addE M e q,m.2.length<=N+1:=by
 induction M with
 | nil=>intro m hm;simp[addE]at hm;subst hm;simp
 | cons a M ih =>
  intro m hm;simp only[addE]at hm;split at hm
  ·rcases Yd.1 hm with rfl|hm
   ·have:=h a (by simp);simp;omega
   have:=h m (by simp[hm]);omega
  rcases Yd.1 hm with rfl|hm
  ·have:=h m (by simp);omega
  exact ih (λ m hm=>h m (by simp[hm])) m hm
def zipM (M:List (E × List Q)) (vs:List Value):List (E × Value):=List.zipWith (λ m v=>(m.1,v)) M vs
theorem en {M1 M2:List (E × List Q)} {v1 v2:List Value} (h:v1.length=M1.length):zipM (M1++M2) (v1++v2)=zipM M1 v1++zipM M2 v2:=by
 unfold zipM;exact List.zipWith_append h.symm
theorem nr {M:List (E × List Q)} {vs:List Value} (h:vs.length=M.length):(zipM M vs).map (·.1)=M.map (·.1):=by
 induction M generalizing vs with
 | nil=>simp[zipM]
 | cons m M ih =>
  cases vs with
  | nil=>simp at h
  | cons v vs =>
   have:=ih (vs:=vs) (by simpa using h);simp only[zipM,List.zipWith_cons_cons,yM]at this ⊢;rw[this]
theorem fA {M:List (E × List Q)} {vs:List Value} {p:E × Value} (h:p∈zipM M vs):∃ m∈M,m.1=p.1:=by
 induction M generalizing vs with
 | nil=>simp[zipM]at h
 | cons m M ih =>
  cases vs with
  | nil=>simp[zipM]at h
  | cons v vs =>
   simp only[zipM,List.zipWith_cons_cons,Yd]at h;rcases h with rfl|h
   ·exact⟨m,by simp,rfl⟩
   obtain⟨a,A,e⟩:=ih h;exact⟨a,by simp[A],e⟩
structure Grp (W:World) (b base:Nat) (M:List (E × List Q)) (vs:List Value):Prop where
 map:HasM E.val W b (zipM M vs)
 len:vs.length=M.length
 ok:∀ m∈M,okE m.1
 keys:(M.map (·.1)).Nodup
 each:∀ (i:Nat) (v:Value) (m:E × List Q),vs[i]?=some v->M[i]?=some m->OwnQ W base v m.2
 apart:∀ (i j:Nat) (u v:Value),i≠j->vs[i]?=some u->vs[j]?=some v->u.ownBlock=none\/u.ownBlock≠v.ownBlock
theorem Grp.below {W W':World} {b base:Nat} {M:List (E × List Q)} {vs:List Value} (h:Grp W b base M vs) (e:Bw W W'):Grp W' b base M vs :=
 ⟨h.map.below e,h.len,h.ok,h.keys,λ i v m hv hm=>(h.each i v m hv hm).below e,h.apart⟩
theorem OwnQ.ne_map {W:World} {b base:Nat} {v:Value} {l:List Q} {L:List (E × Value)} (h:OwnQ W base v l) (hm:HasM E.val W b L):∀ k,v.ownBlock=some k->k≠b:=by
 intro k hk e;subst e;rcases h.2 with⟨rfl,_⟩|⟨g,cap,cur,rfl,_,h2,_⟩
 ·cases hk
 simp only[Value.ownBlock,yo]at hk;subst hk;unfold HasM at hm;rw[h2]at hm;cases hm
theorem wO {M1 M2:List (E × List Q)} {e:E} {l:List Q} (h:((M1++(e,l) :: M2).map (·.1)).Nodup):∀ m∈M1,m.1≠e:=by
 intro m hm he;rw[Yl,ko]at h;exact h.2.2 m.1 (yP.2 ⟨m,hm,rfl⟩) e (by simp) he
theorem Grp.entry {W:World} {b base:Nat} {M:List (E × List Q)} {vs:List Value} (h:Grp W b base M vs) {e:E} (he:okE e) :
  ∃ M1 l M2 vs1 v vs2 W1,(Instr.mapEntry 130 (.map (some b)) (E.val e)).run Tryz.prog W=.ok (.tuple #[v,.int .i64 M1.length]) W1/\Grp W1 b base (M1++(e,l) :: M2) (vs1++v :: vs2)/\vs1.length=M1.length /\
   (∀ q,addE M e q=M1++(e,l++[q]) :: M2)/\(∀ N,(∀ m∈M,m.2.length<=N)->l.length<=N)/\(∀ u∈vs1++v :: vs2,u∈vs\/u=.slice none 0 0)/\W.grownBy W1 (some b)/\W1.heap.size=W.heap.size:=by
 by_cases A:∃ m∈M,m.1=e
 ·obtain⟨⟨C,l⟩,A,rfl⟩:=A;obtain⟨M1,M2,rfl⟩:=List.append_of_mem A;have R:M1.length<vs.length:=by rw[h.len];simp
  obtain⟨vs1,v,vs2,rfl,H⟩:∃ vs1 v vs2,vs=vs1++v :: vs2/\vs1.length=M1.length :=
   ⟨vs.take M1.length,vs[M1.length],vs.drop (M1.length+1),by rw[<- YG R,List.take_append_drop],by rw[Ye];omega⟩
  have J:zipM (M1++(C,l) :: M2) (vs1++v :: vs2)=zipM M1 vs1++(C,v) :: zipM M2 vs2:=by rw[en H];rfl
  have D:=h.map;rw[J]at D;have I:((zipM M1 vs1++(C,v) :: zipM M2 vs2).map (·.1)).Nodup:=by rw[<- J,nr h.len];exact h.keys
  have F:(zipM M1 vs1).length=M1.length:=by simp[zipM,H]
  have B:=zj encE underlying130 D (λ p hp=>by
   rw[<- J]at hp;obtain⟨m,A,e⟩:=fA hp;rw[<- e];exact h.ok m A) I
  rw[F]at B;exact⟨M1,l,M2,vs1,v,vs2,W,B,h,H,λ q=>im (wO h.keys) q,λ N hN=>hN (C,l) (by simp),λ u hu=>.inl hu,⟨rfl,rfl,rfl,ye _,λ _ _ _=>rfl⟩,rfl⟩
 ·have G:∀ m∈M,m.1≠e:=λ m hm' C=>A ⟨m,hm',C⟩;have J:zipM (M++[(e,[])]) (vs++[.slice none 0 0])=zipM M vs++[(e,.slice none 0 0)]:=by rw[en h.len];rfl
  have F:(zipM M vs).length=M.length:=by simp[zipM,h.len]
  have B:=rO encE underlying130 (zeroValue22 W) h.map (λ p hp=>by
   obtain⟨m,A,e⟩:=fA hp;rw[<- e];exact h.ok m A) he (λ p hp C=>by
   obtain⟨m,A,O⟩:=fA hp;exact G m A (O.trans C))
  rw[F,<- J]at B;have K:=dn (enc:=E.val) W b (zipM (M++[(e,[])]) (vs++[.slice none 0 0]));refine⟨M,[],[],vs,.slice none 0 0,[],_,B,⟨HasM.put h.map.lt _,by simp[h.len],λ m A=>?_,?_,λ i v m hv A=>?_,λ i j u v hij hu hv=>?_⟩,h.len,λ q=>by rw[fm G q];rfl,λ N hN=>by simp,λ u hu=>by simpa using hu,K,aj _ _ _⟩
  ·rcases yY.1 A with A|A
   ·exact h.ok m A
   rw[yU.1 A];exact he
  ·rw[Yl,ko];exact⟨h.keys,by simp,λ a ha b hb C=>by
    obtain⟨m,L,rfl⟩:=yP.1 ha;simp at hb;subst hb;exact G m L C⟩
  ·by_cases hi:i<vs.length
   ·rw[yX hi]at hv;rw[yX (by rw[<- h.len];exact hi)]at A;have P:=h.each i v m hv A;exact P.kept K (by
     by_cases hv:v.ownBlock=none
     ·exact .inl hv
     exact .inr (λ C=>P.ne_map h.map b C rfl))
   have:i=vs.length:=(by have:=(yc.1 hv).1;simp at this;omega);subst this;rw[yW (ye _)]at hv;rw[yW (by rw[h.len];exact ye _)]at A;simp at hv;simp[h.len]at A;subst hv;subst A;exact OwnQ.nil _ _
  by_cases hi:i<vs.length
  ·by_cases hj:j<vs.length
   ·rw[yX hi]at hu;rw[yX hj]at hv;exact h.apart i j u v hij hu hv
   have:j=vs.length:=(by have:=(yc.1 hv).1;simp at this;omega);subst this;rw[yW (ye _)]at hv;simp at hv;subst hv;by_cases hu0:u.ownBlock=none
   ·exact .inl hu0
   exact .inr (λ C=>hu0 (by rw[C];rfl))
  have:i=vs.length:=by have:=(yc.1 hu).1;simp at this;omega
  subst this;rw[yW (ye _)]at hu;simp at hu;subst hu;exact .inl rfl
theorem Grp.store {W w6:World} {b base:Nat} {M1 M2:List (E × List Q)} {e:E} {l:List Q} {vs1 vs2:List Value} {v v':Value} {q:Q} (h:Grp W b base (M1++(e,l) :: M2) (vs1++v :: vs2)) (hl1:vs1.length=M1.length)
  (hown:w6.ownsRow base 56 3 v' (l.length+1) (qCells l++qVals q)) (hgrow:W.grownBy w6 v.ownBlock) (hb':v'.ownBlock=v.ownBlock\/v'.ownBlock=some W.heap.size) :
  (Instr.entryStore 130 (.map (some b)) (.int .i64 M1.length) v').run Tryz.prog w6=.ok () (putM E.val w6 b (zipM (M1++(e,l++[q]) :: M2) (vs1++v' :: vs2))) /\
   Grp (putM E.val w6 b (zipM (M1++(e,l++[q]) :: M2) (vs1++v' :: vs2))) b base (M1++(e,l++[q]) :: M2) (vs1++v' :: vs2):=by
 have U:=h.each M1.length v (e,l) (by rw[<- hl1];simp) (by simp);have N:=U.ne_map h.map;have S:zipM (M1++(e,l) :: M2) (vs1++v :: vs2)=zipM M1 vs1++(e,v) :: zipM M2 vs2:=by rw[en hl1];rfl
 have O:zipM (M1++(e,l++[q]) :: M2) (vs1++v' :: vs2)=zipM M1 vs1++(e,v') :: zipM M2 vs2:=by rw[en hl1];rfl
 have L:(zipM M1 vs1).length=M1.length:=by simp[zipM,hl1]
 have G:HasM E.val w6 b (zipM M1 vs1++(e,v) :: zipM M2 vs2):=by rw[<- S];exact h.map.grown hgrow (λ e'=>N b e'.symm rfl)
 have F:=zd (P:=Tryz.prog) G 130 v';rw[L,<- O]at F;refine⟨F,HasM.put G.lt _,by have:=h.len;simp at this ⊢;omega,λ m hm=>?_,?_,λ i u m hu hm=>?_,λ i j u x hij hu hx=>?_⟩
 ·rcases yY.1 hm with hm|hm
  ·exact h.ok m (by simp[hm])
  rcases Yd.1 hm with rfl|hm
  ·exact h.ok (e,l) (by simp)
  exact h.ok m (by simp[hm])
 ·have:=h.keys;simpa using this
 ·have M:=dn (enc:=E.val) w6 b (zipM (M1++(e,l++[q]) :: M2) (vs1++v' :: vs2));have J:∀ {u:Value} {r:List Q},OwnQ w6 base u r->OwnQ (putM E.val w6 b (zipM (M1++(e,l++[q]) :: M2) (vs1++v' :: vs2))) base u r:=λ {u r} hu=>by
   refine hu.kept M ?_;by_cases hu0:u.ownBlock=none
   ·exact .inl hu0
   exact .inr (λ e'=>hu.ne_map G b e' rfl)
  by_cases D:i=M1.length
  ·subst D;rw[<- hl1]at hu;simp at hu;simp at hm;subst hu;subst hm;refine J ?_;show w6.ownsRow base _ 3 v' (l++[q]).length (qCells (l++[q]));rw[aw,yL];exact hown
  have B:(vs1++v :: vs2)[i]?=some u:=by
   rw[kL]at hu ⊢;split at hu
   ·rename_i A;rw[Yz A];exact hu
   rename_i A;rw[Yy A];rw[List.getElem?_cons,Yy (by omega)]at hu ⊢;exact hu
  have R:(M1++(e,l) :: M2)[i]?=some m:=by
   rw[kL]at hm ⊢;split at hm
   ·rename_i A;rw[Yz A];exact hm
   rename_i A;rw[Yy A];rw[List.getElem?_cons,Yy (by omega)]at hm ⊢;exact hm
  have T:=h.each i u m B R;exact J (T.kept hgrow (h.apart i M1.length u v D B (by rw[<- hl1];simp)))
 ·-- the blocks are apart
  have C:∀ {i:Nat} {u:Value},i≠M1.length->(vs1++v' :: vs2)[i]?=some u->(vs1++v :: vs2)[i]?=some u:=λ {i u} D hu=>by
   rw[kL]at hu ⊢;split at hu
   ·rename_i A;rw[Yz A];exact hu
   rename_i A;rw[Yy A];rw[List.getElem?_cons,Yy (by omega)]at hu ⊢;exact hu
  have A:∀ {i:Nat} {u:Value},(vs1++v :: vs2)[i]?=some u->∀ k,u.ownBlock=some k->k<W.heap.size:=λ {i u} hu k hk=>by
   have D:i<(M1++(e,l) :: M2).length:=(by rw[<- h.len];exact(yc.1 hu).1);exact((h.each i u _ hu (yb D)).lt k hk).2
  have K:(vs1++v :: vs2)[M1.length]?=some v:=by rw[<- hl1];simp
  by_cases D:i=M1.length
  ·have I:j≠M1.length:=λ e'=>hij (D.trans e'.symm);subst D;rw[<- hl1]at hu;simp at hu;subst hu;have H:=C I hx;rcases hb' with h1|h1
   ·rw[h1];exact h.apart _ j v x (Ne.symm I) K H
   refine .inr (λ e'=>?_);rw[h1]at e';have:=A H _ e'.symm;omega
  have B:=C D hu;by_cases I:j=M1.length
  ·subst I;rw[<- hl1]at hx;simp at hx;subst hx;rcases hb' with h1|h1
   ·rw[h1];exact h.apart i _ u v D B K
   by_cases hu0:u.ownBlock=none
   ·exact .inl hu0
   refine .inr (λ e'=>?_);rw[h1]at e';have:=A B _ e';omega
  exact h.apart i j u x hij B (C I hx)
structure BelowBut (B b:Nat) (w w':World):Prop where
 os:w'.os=w.os
 tape:w'.tape=w.tape
 output:w'.output=w.output
 size:w.heap.size<=w'.heap.size
 block:∀ k,k<B->k≠b->w'.heap[k]?=w.heap[k]?
theorem BelowBut.refl (B b:Nat) (w:World):BelowBut B b w w:=⟨rfl,rfl,rfl,ye _,λ _ _ _=>rfl⟩
theorem BelowBut.trans {B b:Nat} {x y z:World} (h:BelowBut B b x y) (k:BelowBut B b y z):BelowBut B b x z :=
 ⟨k.os.trans h.os,k.tape.trans h.tape,k.output.trans h.output,yJ h.size k.size,λ i hi hb=>(k.block i hi hb).trans (h.block i hi hb)⟩
theorem BelowBut.of_below {B b:Nat} {x y:World} (h:Below B x y):BelowBut B b x y:=⟨h.os,h.tape,h.output,h.size,λ k hk _=>h.block k hk⟩
theorem BelowBut.grown {B b:Nat} {a w w':World} {row:Option Nat} (h:BelowBut B b a w) (hg:w.grownBy w' row) (hB:B<=w.heap.size) (hr:∀ k,row=some k->B<=k\/k=b):BelowBut B b a w' :=
 h.trans ⟨hg.os,hg.tape,hg.output,hg.size,λ k hk hb=>hg.block k (by omega) (λ e=>by have:=hr k e.symm;omega)⟩
theorem BelowBut.below {B b:Nat} {w w':World} (h:BelowBut B b w w') {C:Nat} (h1:C<=B) (h2:C<=b):Below C w w':=⟨h.os,h.tape,h.output,h.size,λ k hk=>h.block k (by omega) (by omega)⟩
theorem CO (a b c d e f g h i:Value) (w:World):(Instr.index 166 (.agg #[a,b,c,d,e,f,g,h,i]) (.int .i64 0)).run Tryz.prog w=.ok (.agg #[a,b,c]) w:=by kernel_rfl
theorem wE (a b c d e f g h i:Value) (w:World):(Instr.index 166 (.agg #[a,b,c,d,e,f,g,h,i]) (.int .i64 1)).run Tryz.prog w=.ok (.agg #[d,e,f]) w:=by kernel_rfl
theorem tg (a b c d e f g h i:Value) (w:World):(Instr.index 166 (.agg #[a,b,c,d,e,f,g,h,i]) (.int .i64 2)).run Tryz.prog w=.ok (.agg #[g,h,i]) w:=by kernel_rfl
theorem jj (q:Q) (j:Nat) (hj:j<3) (w:World):∃ e,(edgesQ q)[j]?=some e/\(Instr.index 166 (edgesV q) (.int .i64 j)).run Tryz.prog w=.ok (E.val e) w:=by
 rcases (by omega:j=0\/j=1\/j=2)with rfl|rfl|rfl
 ·exact⟨_,rfl,CO _ _ _ _ _ _ _ _ _ w⟩
 ·exact⟨_,rfl,wE _ _ _ _ _ _ _ _ _ w⟩
 exact⟨_,rfl,tg _ _ _ _ _ _ _ _ _ w⟩
theorem jG {q:Q} {j:Nat} {e:E} (h:(edgesQ q)[j]?=some e) (M:List (E × List Q)):((edgesQ q).take (j+1)).foldl (λ M e=>addE M e q) M=addE (((edgesQ q).take j).foldl (λ M e=>addE M e q) M) e q:=by
 obtain⟨A,rfl⟩:=yc.1 h;rw[Yr A,kt];rfl
theorem Am {l:List Q} {k:Nat} {q:Q} (h:l[k]?=some q) (M:List (E × List Q)):ownL M (l.take (k+1))=addQ (ownL M (l.take k)) q:=by
 obtain⟨hk,rfl⟩:=yc.1 h;rw[ownL,Yr hk,kt];rfl
theorem ic (b base N:Nat) (M:List (E × List Q)) (vs:List Value) (l:List Q) (v:Value) (w:World) (hg:Grp w b base M vs) (hbw:base<=w.heap.size) (hv:HasQ w v l) (hvb:∀ k,v.ownBlock=some k->k<base/\k≠b) (hq:∀ q∈l,inQ q)
  (hN:∀ m∈M,m.2.length<=N) (hN':N+3*l.length<=1000000) :
  Calls Tryz.prog 56 #[.map (some b),v] w λ e w'=>e=.returned (.tuple #[])/\(∃ vs',Grp w' b base (ownL M l) vs')/\(∀ m∈ownL M l,m.2.length<=N+3*l.length)/\BelowBut base b w w':=by
 rcases hv with⟨rfl,rfl⟩|⟨a,cap,rfl,hlc,hcm,hqs⟩
 case inl =>
  go_enter func56,ntmps56;go_wp2;refine wp_loop_rounds 1 ?_;rw[rounds_succ];go_wp2
  go_end0
  exact⟨rfl,⟨vs,hg⟩,λ m hm=>by have:=hN m hm;omega,BelowBut.refl _ _ _⟩
 have B9:=hvb _ rfl;clear hvb;have HQ:=yK hq;clear hq;have HN:=yK hN;clear hN;have HS:=yK hqs;clear hqs;simp only[maxLen]at hcm;go_enter func56,ntmps56;go_wp2;go_loopw [10] (λ u wr=>∃ (k:Nat) (vs:List Value),k<=l.length/\u=.int .i64 k/\Hid (Grp wr b base (ownL M (l.take k)) vs/\(∀ m∈ownL M (l.take k),m.2.length<=N+3*k)/\BelowBut base b w wr)) (λ u _=>l.length-(intOf u).toNat)
 case atStart=>exact⟨0,vs,by omega,rfl,yK ⟨hg,HN.o,BelowBut.refl _ _ _⟩⟩
 case round =>
  obtain⟨k,vs,hk,rfl,C⟩:=hrel;by_cases hlt:k<l.length
  ·obtain⟨q,H⟩:∃ q,l[k]?=some q:=⟨_,yb hlt⟩;have A9:=HQ.o q (yg H);have R:=HS.o.move (C.o.2.2.block _ B9.1 B9.2);have c0:=R.at0 k q H;have c1:=R.at1 k q H;have c2:=R.at2 k q H;have HK:=yK H;clear H R;have B5:=yK A9;clear A9;obtain⟨x,y,s⟩:=q;go_wp2_with fail;have A4:(wr.alloc (.cells #[.int .i64 x,.int .i64 y,.int .i64 s] 56)).heap[wr.heap.size]?=some (.cells #[.int .i64 x,.int .i64 y,.int .i64 s] 56):=yd wr _;have G:Bw wr (wr.alloc (.cells #[.int .i64 x,.int .i64 y,.int .i64 s] 56)):=Below.alloc (yf _ wr) (ye _) _;refine(lO ⟨x,y,s⟩ B5.o (wr.alloc (.cells #[.int .i64 x,.int .i64 y,.int .i64 s] 56))).mono ?_;rintro e w2 ⟨rfl,A3⟩;have U:=(A3.block _ (ya.1 A4).1).trans A4;have g:=G.tm A3;have A1:base<=wr.heap.size:=yJ hbw C.o.2.2.size;have p:Hid (Grp w2 b base (ownL M (l.take k)) vs/\(∀ m∈ownL M (l.take k),m.2.length<=N+3*k)/\BelowBut base b w w2):=yK ⟨C.o.1.below g,C.o.2.1,C.o.2.2.trans (.of_below (g.mono A1))⟩;have C7:=yK U;have B0:∀ u∈vs,u.ownBlock≠some wr.heap.size:=λ u hu e'=>by
    obtain⟨i,hi⟩:=yV hu;have C2:i<(ownL M (l.take k)).length:=(by rw[<- C.o.1.len];exact(yc.1 hi).1);have:=((C.o.1.each i u _ hi (yb C2)).lt _ e').2;omega
   have C1:=yK B0;clear B0;clear A4 G A3 g c0 c1 c2 U C;go_wp2_with fail;obtain⟨K,rfl⟩:∃ K:World,K=wr:=⟨_,rfl⟩;go_loopw [16] (λ u wr=>∃ (j:Nat) (vs:List Value),j<=3/\u=.int .i64 j/\Hid (wr.heap[K.heap.size]?=some (.cells #[.int .i64 x,.int .i64 y,.int .i64 s] 56)/\Grp wr b base (((edgesQ ⟨x,y,s⟩).take j).foldl (λ M e=>addE M e ⟨x,y,s⟩) (ownL M (l.take k))) vs /\
    (∀ m∈((edgesQ ⟨x,y,s⟩).take j).foldl (λ M e=>addE M e ⟨x,y,s⟩) (ownL M (l.take k)),m.2.length<=N+3*k+j)/\BelowBut base b w wr/\(∀ u∈vs,u.ownBlock≠some K.heap.size))) (λ u _=>3-(intOf u).toNat)
   case atStart=>exact⟨0,vs,by omega,rfl,yK ⟨C7.o,p.o.1,p.o.2.1,p.o.2.2,C1.o⟩⟩
   obtain⟨j,vs,hj,rfl,C⟩:=hrel;by_cases hlj:j<3
   ·obtain⟨ed,B2,B8⟩:=jj ⟨x,y,s⟩ j hlj wr;have n:=yK B2;clear B2;have B3:=yK (an B5.o ed (yg n.o));obtain⟨ex,S,T⟩:=ed;unfold E.val at B8;go_upto_region 6 with(fail);have Z:=C.o;have G:Bw wr (wr.alloc (.cells #[.int .i64 ex,.int .i64 S,.int .i64 T] 61)):=Below.alloc (yf _ wr) (ye _) _;have A1:base<=wr.heap.size:=yJ hbw Z.2.2.2.1.size;have A:=heapO (.cells #[.int .i64 ex,.int .i64 S,.int .i64 T] 61) Z.1;have J:(wr.alloc (.cells #[.int .i64 ex,.int .i64 S,.int .i64 T] 61)).heap[wr.heap.size]?=some (.cells #[.int .i64 ex,.int .i64 S,.int .i64 T] 61):=yd wr _;have I:=Z.2.1.below G;have B:BelowBut base b w (wr.alloc (.cells #[.int .i64 ex,.int .i64 S,.int .i64 T] 61))  :=Z.2.2.2.1.trans (.of_below (G.mono A1));have t:wr.heap.size<(wr.alloc (.cells #[.int .i64 ex,.int .i64 S,.int .i64 T] 61)).heap.size:=(by simp);have Y:=yK Z.2.2.1;have O:=yK Z.2.2.2.2;have D5:=yK (ya.1 Z.1).1;clear G Z C B8;revert A J I B t;generalize wr.alloc (.cells #[.int .i64 ex,.int .i64 S,.int .i64 T] 61)=W5;intro A J I B t;have d0:W5.cell? ⟨K.heap.size,0,none⟩=some (.int .i64 x):=(by simp[World.cell?,A]);have d1:W5.cell? ⟨K.heap.size,1,none⟩=some (.int .i64 y):=(by simp[World.cell?,A]);have d2:W5.cell? ⟨K.heap.size,2,none⟩=some (.int .i64 s):=(by simp[World.cell?,A]);have d3:W5.cell? ⟨wr.heap.size,0,none⟩=some (.int .i64 ex):=(by simp[World.cell?,J]);have d4:W5.cell? ⟨wr.heap.size,1,none⟩=some (.int .i64 S):=(by simp[World.cell?,J]);have d5:W5.cell? ⟨wr.heap.size,2,none⟩=some (.int .i64 T):=(by simp[World.cell?,J]);have L:Bw W5 (W5.alloc (.cells #[.int .i64 x,.int .i64 y,.int .i64 s] 56)):=Below.alloc (yf _ W5) (ye _) _;obtain⟨M1,row,M2,D3,v,D7,W7,C6,A0,A8,X,D,P,F,d⟩:=(I.below L).entry B3.o;have A2:=A0.each M1.length v (⟨ex,S,T⟩,row) (by rw[<- A8];simp) (by simp);have B1:row.length<=N+3*k+j:=D _ Y.o;have C0:W5.heap.size≠b:=λ e'=>by have:=I.map.lt;omega
    have C4:∀ (i:Nat) (u:Value),(qVals ⟨x,y,s⟩)[i]?=some u->W7.cell? ((⟨W5.heap.size,0,none⟩:Addr).add i)=some u:=λ i u hu=>F.cell (bC (W:=W5) ⟨x,y,s⟩ i u hu) (by rw[block_add];simpa using C0);have V:base<=W7.heap.size:=(by rw[d];simp;have:=B.size;omega);have C5:BelowBut base b w W7:=((B.trans (.of_below (L.mono (yJ hbw B.size)))).grown F (by simp;have:=B.size;omega) (λ k hk=>by cases hk;exact .inr rfl));have r:W7.heap[K.heap.size]?=some (.cells #[.int .i64 x,.int .i64 y,.int .i64 s] 56):=(F.block _ (by have:=(ya.1 A).1;simp;omega) (λ e'=>by cases e';have:=I.map;unfold HasM at this;rw[A]at this;cases this)).trans (heapO _ A);obtain⟨vp,vc,rfl⟩:=zf A2;unfold E.val at C6;have B4:=yK (X ⟨x,y,s⟩);clear X;have HM:Hid (row.length+1<=maxLen):=yK (by simp only[maxLen];omega);have D0:Hid ((row.length+1)*24<=140737488355328):=yK (by omega);have A6:=yK A0;have A7:=yK A2;have D2:=yK B1;clear A0 A2 B1 D A J I B t L F d C0;obtain⟨iQ,C3,C8,D1,C9⟩:=info_parts infoQ;go_wp2_with (first
     | (at_builtin;refine wpList_append_own_at _ rfl _ _ 22 rfl base 56 iQ _ 3 24 underlying22 C3 C8 D1 C9 rfl (by decide) (.slice vp row.length vc) row.length (qCells row) rfl A7.o ⟨W5.heap.size,0,none⟩ 1 1 (qVals ⟨x,y,s⟩) rfl rfl C4 (aV _) HM.o D0.o V ?_;intro v' w8 hown' hgrow _ hat;obtain⟨D8,c⟩:=A6.o.store A8 hown' hgrow hat;obtain⟨D4,D6,rfl⟩:=zf hown';have B6:=yK c;clear c))
    have hvb:(Value.slice vp row.length vc).ownBlock≠some K.heap.size:=by
     rcases P (.slice vp row.length vc) (by simp)with h|h
     ·exact O.o _ h
     rw[h];simp[Value.ownBlock]
    have A5:K.heap.size≠b:=λ e'=>by
     have:=A6.o.map;unfold HasM at this;rw[<- e',r]at this;cases this
    have D:∀ z,(Value.slice vp row.length vc).ownBlock=some z->base<=z:=λ z hz=>(A7.o.lt z hz).1;have B7:K.heap.size<W7.heap.size:=(ya.1 r).1
    go_roundw
    case rel =>
     refine⟨j+1,_,by omega,by go_num,yK ⟨(zt _ A5 _).trans ((hgrow.block _ B7 (λ e'=>hvb e'.symm)).trans r),by rw[jG n.o,B4.o];exact B6.o,?_,(C5.grown hgrow V (λ k hk=>.inl (D k hk))).trans ⟨rfl,rfl,rfl,by rw[aj];exact ye _,λ k _ hkb=>zt _ hkb _⟩,?_⟩⟩
     ·rw[jG n.o];intro m hm;have:=Bi Y.o m hm;omega
     intro u hu;rcases yY.1 hu with h|h
     ·rcases P u (by simp[h])with h1|h1
      ·exact O.o _ h1
      rw[h1];simp[Value.ownBlock]
     rcases Yd.1 h with rfl|h
     ·rcases hat with h1|h1
      ·rw[h1];exact hvb
      rw[h1];simp;omega
     rcases P u (by simp[h])with h1|h1
     ·exact O.o _ h1
     rw[h1];simp[Value.ownBlock]
    case measure=>simp[intOf];omega
   obtain rfl:j=3:=(by omega);have f:=C.o;have HF:Hid (Grp wr b base (ownL M (l.take (k+1))) vs/\(∀ m∈ownL M (l.take (k+1)),m.2.length<=N+3*(k+1))/\BelowBut base b w wr):=yK (by
    rw[Am HK.o];exact⟨f.2.1,λ m hm=>by have:=f.2.2.1 m hm;omega,f.2.2.2.1⟩)
   clear f C;go_wp2_with fail
   go_roundw
   case rel=>exact⟨k+1,vs,by omega,by go_num,HF⟩
   case measure=>simp[intOf];omega
  obtain rfl:k=l.length:=by omega
  have f:=C.o;rw[Yc]at f;have HF:=yK f;clear f C;go_wp2
  go_end0
  exact⟨rfl,⟨vs,HF.o.1⟩,HF.o.2.1,HF.o.2.2⟩
