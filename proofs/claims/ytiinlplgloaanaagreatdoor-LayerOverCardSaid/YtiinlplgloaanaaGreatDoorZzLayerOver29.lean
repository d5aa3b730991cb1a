/- own: the quarters that have each edge. -/
import Derived.Test.YtiinlplgloaanaaGreatDoorZzLayerOver28
set_option linter.all false
set_option maxRecDepth 100000
set_option maxHeartbeats 4000000
namespace Go.Proofs.YtiinlplgloaanaaGreatDoor
open Go.Proofs.Tryz Go.RowKit
attribute [local go_sem] Oper.semAt_some
def addE (M:List (E × List Q)) (e:E) (q:Q):List (E × List Q) :=
 match M with
 | []=>[(e,[q])]
 | m :: M=>if m.1=e then (e,m.2++[q]) :: M else m :: addE M e q
def addQ (M:List (E × List Q)) (q:Q):List (E × List Q):=(edgesQ q).foldl (λ M e=>addE M e q) M
def ownL (M:List (E × List Q)) (l:List Q):List (E × List Q):=l.foldl addQ M
theorem qdb {M1 M2:List (E × List Q)} {e:E} {l:List Q} (h:∀ m∈M1,m.1≠e) (q:Q):addE (M1++(e,l) :: M2) e q=M1++(e,l++[q]) :: M2:=by
 induction M1 with
 | nil=>simp[addE]
 | cons m M1 ih =>
  have h1:=h m (by simp);simp only[Yg,addE,Yz h1];rw[ih (λ m hm=>h m (by simp[hm]))]
theorem qcs {M:List (E × List Q)} {e:E} (h:∀ m∈M,m.1≠e) (q:Q):addE M e q=M++[(e,[q])]:=by
 induction M with
 | nil=>rfl
 | cons m M ih =>
  have h1:=h m (by simp);simp only[Yg,addE,Yz h1];rw[ih (λ m hm=>h m (by simp[hm]))]
theorem zgq {M:List (E × List Q)} {e:E} {q:Q} {N:Nat} (h:∀ m∈M,m.2.length<=N):∀ m∈addE M e q,m.2.length<=N+1:=by
 induction M with
 | nil=>intro m hm;simp[addE]at hm;subst hm;simp
 | cons a M ih =>
  intro m hm;simp only[addE]at hm;split at hm
  ·rcases Ye.1 hm with rfl|hm
   ·have:=h a (by simp);simp;omega
   have:=h m (by simp[hm]);omega
  rcases Ye.1 hm with rfl|hm
  ·have:=h m (by simp);omega
  exact ih (λ m hm=>h m (by simp[hm])) m hm
def zipM (M:List (E × List Q)) (vs:List Value):List (E × Value):=List.zipWith (λ m v=>(m.1,v)) M vs
theorem zbd {M1 M2:List (E × List Q)} {v1 v2:List Value} (h:v1.length=M1.length):zipM (M1++M2) (v1++v2)=zipM M1 v1++zipM M2 v2:=by
 unfold zipM;exact List.zipWith_append h.symm
theorem zgp {M:List (E × List Q)} {vs:List Value} (h:vs.length=M.length):(zipM M vs).map (·.1)=M.map (·.1):=by
 induction M generalizing vs with
 | nil=>simp[zipM]
 | cons m M ih =>
  cases vs with
  | nil=>simp at h
  | cons v vs =>
   have:=ih (vs:=vs) (by simpa using h);simp only[zipM,List.zipWith_cons_cons,yM]at this ⊢;rw[this]
theorem zc0 {M:List (E × List Q)} {vs:List Value} {p:E × Value} (h:p∈zipM M vs):∃ m∈M,m.1=p.1:=by
 induction M generalizing vs with
 | nil=>simp[zipM]at h
 | cons m M ih =>
  cases vs with
  | nil=>simp[zipM]at h
  | cons v vs =>
   simp only[zipM,List.zipWith_cons_cons,Ye]at h;rcases h with rfl|h
   ·exact⟨m,by simp,rfl⟩
   obtain⟨a,ha,e⟩:=ih h;exact⟨a,by simp[ha],e⟩
structure Grp (W:World) (b base:Nat) (M:List (E × List Q)) (vs:List Value):Prop where
 map:HasM E.val W b (zipM M vs)
 len:vs.length=M.length
 ok:∀ m∈M,okE m.1
 keys:(M.map (·.1)).Nodup
 each:∀ (i:Nat) (v:Value) (m:E × List Q),vs[i]?=some v->M[i]?=some m->OwnQ W base v m.2
 apart:∀ (i j:Nat) (u v:Value),i≠j->vs[i]?=some u->vs[j]?=some v->u.ownBlock=none\/u.ownBlock≠v.ownBlock
theorem Grp.below {W W':World} {b base:Nat} {M:List (E × List Q)} {vs:List Value} (h:Grp W b base M vs) (e:Bw W W'):Grp W' b base M vs :=
 ⟨h.map.below e,h.len,h.ok,h.keys,λ i v m hv hm=>(h.each i v m hv hm).below e,h.apart⟩
theorem OwnQ.ne_map {W:World} {b base:Nat} {v:Value} {l:List Q} {L:List (E × Value)} (h:OwnQ W base v l) (hm:HasM E.val W b L):∀ k,v.ownBlock=some k->k≠b:=by
 intro k hk e;subst e;rcases h.2 with⟨rfl,_⟩|⟨g,cap,cur,rfl,_,h2,_⟩
 ·cases hk
 simp only[Value.ownBlock,yo]at hk;subst hk;unfold HasM at hm;rw[h2]at hm;cases hm
theorem qfa {M1 M2:List (E × List Q)} {e:E} {l:List Q} (h:((M1++(e,l) :: M2).map (·.1)).Nodup):∀ m∈M1,m.1≠e:=by
 intro m hm he;rw[Ym,List.nodup_append]at h;exact h.2.2 m.1 (yP.2 ⟨m,hm,rfl⟩) e (by simp) he
theorem Grp.entry {W:World} {b base:Nat} {M:List (E × List Q)} {vs:List Value} (h:Grp W b base M vs) {e:E} (he:okE e) :
  ∃ M1 l M2 vs1 v vs2 W1,(Instr.mapEntry 130 (.map (some b)) (E.val e)).run Tryz.prog W=.ok (.tuple #[v,.int .i64 M1.length]) W1/\Grp W1 b base (M1++(e,l) :: M2) (vs1++v :: vs2)/\vs1.length=M1.length /\
   (∀ q,addE M e q=M1++(e,l++[q]) :: M2)/\(∀ N,(∀ m∈M,m.2.length<=N)->l.length<=N)/\(∀ u∈vs1++v :: vs2,u∈vs\/u=.slice none 0 0)/\W.grownBy W1 (some b)/\W1.heap.size=W.heap.size:=by
 by_cases hm:∃ m∈M,m.1=e
 ·obtain⟨⟨e',l⟩,hm,rfl⟩:=hm;obtain⟨M1,M2,rfl⟩:=List.append_of_mem hm;have hk:M1.length<vs.length:=by rw[h.len];simp
  obtain⟨vs1,v,vs2,rfl,F⟩:∃ vs1 v vs2,vs=vs1++v :: vs2/\vs1.length=M1.length :=
   ⟨vs.take M1.length,vs[M1.length],vs.drop (M1.length+1),by rw[<- List.drop_eq_getElem_cons hk,List.take_append_drop],by rw[Yf];omega⟩
  have hz:zipM (M1++(e',l) :: M2) (vs1++v :: vs2)=zipM M1 vs1++(e',v) :: zipM M2 vs2:=by rw[zbd F];rfl
  have B:=h.map;rw[hz]at B;have G:((zipM M1 vs1++(e',v) :: zipM M2 vs2).map (·.1)).Nodup:=by rw[<- hz,zgp h.len];exact h.keys
  have C:(zipM M1 vs1).length=M1.length:=by simp[zipM,F]
  have A:=qc0 encE underlying130 B (λ p hp=>by
   rw[<- hz]at hp;obtain⟨m,hm,e⟩:=zc0 hp;rw[<- e];exact h.ok m hm) G
  rw[C]at A;exact⟨M1,l,M2,vs1,v,vs2,W,A,h,F,λ q=>qdb (qfa h.keys) q,λ N hN=>hN (e',l) (by simp),λ u hu=>.inl hu,⟨rfl,rfl,rfl,ye _,λ _ _ _=>rfl⟩,rfl⟩
 ·have D:∀ m∈M,m.1≠e:=λ m hm' e'=>hm ⟨m,hm',e'⟩;have hz:zipM (M++[(e,[])]) (vs++[.slice none 0 0])=zipM M vs++[(e,.slice none 0 0)]:=by rw[zbd h.len];rfl
  have C:(zipM M vs).length=M.length:=by simp[zipM,h.len]
  have A:=qbp encE underlying130 (zeroValue22 W) h.map (λ p hp=>by
   obtain⟨m,hm,e⟩:=zc0 hp;rw[<- e];exact h.ok m hm) he (λ p hp e'=>by
   obtain⟨m,hm,I⟩:=zc0 hp;exact D m hm (I.trans e'))
  rw[C,<- hz]at A;have H:=zbs (enc:=E.val) W b (zipM (M++[(e,[])]) (vs++[.slice none 0 0]));refine⟨M,[],[],vs,.slice none 0 0,[],_,A,⟨HasM.put h.map.lt _,by simp[h.len],λ m hm=>?_,?_,λ i v m hv hm=>?_,λ i j u v hij hu hv=>?_⟩,h.len,λ q=>by rw[qcs D q];rfl,λ N hN=>by simp,λ u hu=>by simpa using hu,H,qaV _ _ _⟩
  ·rcases yY.1 hm with hm|hm
   ·exact h.ok m hm
   rw[yU.1 hm];exact he
  ·rw[Ym,List.nodup_append];exact⟨h.keys,by simp,λ a ha b hb e'=>by
    obtain⟨m,J,rfl⟩:=yP.1 ha;simp at hb;subst hb;exact D m J e'⟩
  ·by_cases hi:i<vs.length
   ·rw[yX hi]at hv;rw[yX (by rw[<- h.len];exact hi)]at hm;have ho:=h.each i v m hv hm;exact ho.kept H (by
     by_cases hv:v.ownBlock=none
     ·exact .inl hv
     exact .inr (λ e'=>ho.ne_map h.map b e' rfl))
   have:i=vs.length:=(by have:=(yc.1 hv).1;simp at this;omega);subst this;rw[yW (ye _)]at hv;rw[yW (by rw[h.len];exact ye _)]at hm;simp at hv;simp[h.len]at hm;subst hv;subst hm;exact OwnQ.nil _ _
  by_cases hi:i<vs.length
  ·by_cases hj:j<vs.length
   ·rw[yX hi]at hu;rw[yX hj]at hv;exact h.apart i j u v hij hu hv
   have:j=vs.length:=(by have:=(yc.1 hv).1;simp at this;omega);subst this;rw[yW (ye _)]at hv;simp at hv;subst hv;by_cases hu0:u.ownBlock=none
   ·exact .inl hu0
   exact .inr (λ e'=>hu0 (by rw[e'];rfl))
  have:i=vs.length:=by have:=(yc.1 hu).1;simp at this;omega
  subst this;rw[yW (ye _)]at hu;simp at hu;subst hu;exact .inl rfl
theorem Grp.store {W w6:World} {b base:Nat} {M1 M2:List (E × List Q)} {e:E} {l:List Q} {vs1 vs2:List Value} {v v':Value} {q:Q} (h:Grp W b base (M1++(e,l) :: M2) (vs1++v :: vs2)) (hl1:vs1.length=M1.length)
  (hown:w6.ownsRow base 56 3 v' (l.length+1) (qCells l++qVals q)) (hgrow:W.grownBy w6 v.ownBlock) (hb':v'.ownBlock=v.ownBlock\/v'.ownBlock=some W.heap.size) :
  (Instr.entryStore 130 (.map (some b)) (.int .i64 M1.length) v').run Tryz.prog w6=.ok () (putM E.val w6 b (zipM (M1++(e,l++[q]) :: M2) (vs1++v' :: vs2))) /\
   Grp (putM E.val w6 b (zipM (M1++(e,l++[q]) :: M2) (vs1++v' :: vs2))) b base (M1++(e,l++[q]) :: M2) (vs1++v' :: vs2):=by
 have hv:=h.each M1.length v (e,l) (by rw[<- hl1];simp) (by simp);have M:=hv.ne_map h.map;have hz:zipM (M1++(e,l) :: M2) (vs1++v :: vs2)=zipM M1 vs1++(e,v) :: zipM M2 vs2:=by rw[zbd hl1];rfl
 have K:zipM (M1++(e,l++[q]) :: M2) (vs1++v' :: vs2)=zipM M1 vs1++(e,v') :: zipM M2 vs2:=by rw[zbd hl1];rfl
 have L:(zipM M1 vs1).length=M1.length:=by simp[zipM,hl1]
 have F:HasM E.val w6 b (zipM M1 vs1++(e,v) :: zipM M2 vs2):=by rw[<- hz];exact h.map.grown hgrow (λ e'=>M b e'.symm rfl)
 have D:=zb0 (P:=Tryz.prog) F 130 v';rw[L,<- K]at D;refine⟨D,HasM.put F.lt _,by have:=h.len;simp at this ⊢;omega,λ m hm=>?_,?_,λ i u m hu hm=>?_,λ i j u x hij hu hx=>?_⟩
 ·rcases yY.1 hm with hm|hm
  ·exact h.ok m (by simp[hm])
  rcases Ye.1 hm with rfl|hm
  ·exact h.ok (e,l) (by simp)
  exact h.ok m (by simp[hm])
 ·have:=h.keys;simpa using this
 ·have J:=zbs (enc:=E.val) w6 b (zipM (M1++(e,l++[q]) :: M2) (vs1++v' :: vs2));have H:∀ {u:Value} {r:List Q},OwnQ w6 base u r->OwnQ (putM E.val w6 b (zipM (M1++(e,l++[q]) :: M2) (vs1++v' :: vs2))) base u r:=λ {u r} hu=>by
   refine hu.kept J ?_;by_cases hu0:u.ownBlock=none
   ·exact .inl hu0
   exact .inr (λ e'=>hu.ne_map F b e' rfl)
  by_cases hi:i=M1.length
  ·subst hi;rw[<- hl1]at hu;simp at hu;simp at hm;subst hu;subst hm;refine H ?_;show w6.ownsRow base _ 3 v' (l++[q]).length (qCells (l++[q]));rw[zan,yL];exact hown
  have B:(vs1++v :: vs2)[i]?=some u:=by
   rw[List.getElem?_append]at hu ⊢;split at hu
   ·rename_i A;rw[YA A];exact hu
   rename_i A;rw[Yz A];rw[List.getElem?_cons,Yz (by omega)]at hu ⊢;exact hu
  have N:(M1++(e,l) :: M2)[i]?=some m:=by
   rw[List.getElem?_append]at hm ⊢;split at hm
   ·rename_i A;rw[YA A];exact hm
   rename_i A;rw[Yz A];rw[List.getElem?_cons,Yz (by omega)]at hm ⊢;exact hm
  have ho:=h.each i u m B N;exact H (ho.kept hgrow (h.apart i M1.length u v hi B (by rw[<- hl1];simp)))
 ·-- the blocks are apart
  have C:∀ {i:Nat} {u:Value},i≠M1.length->(vs1++v' :: vs2)[i]?=some u->(vs1++v :: vs2)[i]?=some u:=λ {i u} hi hu=>by
   rw[List.getElem?_append]at hu ⊢;split at hu
   ·rename_i A;rw[YA A];exact hu
   rename_i A;rw[Yz A];rw[List.getElem?_cons,Yz (by omega)]at hu ⊢;exact hu
  have A:∀ {i:Nat} {u:Value},(vs1++v :: vs2)[i]?=some u->∀ k,u.ownBlock=some k->k<W.heap.size:=λ {i u} hu k hk=>by
   have hi:i<(M1++(e,l) :: M2).length:=(by rw[<- h.len];exact (yc.1 hu).1);exact ((h.each i u _ hu (yb hi)).lt k hk).2
  have G:(vs1++v :: vs2)[M1.length]?=some v:=by rw[<- hl1];simp
  by_cases hi:i=M1.length
  ·have hj:j≠M1.length:=λ e'=>hij (hi.trans e'.symm);subst hi;rw[<- hl1]at hu;simp at hu;subst hu;have I:=C hj hx;rcases hb' with h1|h1
   ·rw[h1];exact h.apart _ j v x (Ne.symm hj) G I
   refine .inr (λ e'=>?_);rw[h1]at e';have:=A I _ e'.symm;omega
  have B:=C hi hu;by_cases hj:j=M1.length
  ·subst hj;rw[<- hl1]at hx;simp at hx;subst hx;rcases hb' with h1|h1
   ·rw[h1];exact h.apart i _ u v hi B G
   by_cases hu0:u.ownBlock=none
   ·exact .inl hu0
   refine .inr (λ e'=>?_);rw[h1]at e';have:=A B _ e';omega
  exact h.apart i j u x hij B (C hj hx)
structure BelowBut (B b:Nat) (w w':World):Prop where
 os:w'.os=w.os
 tape:w'.tape=w.tape
 output:w'.output=w.output
 size:w.heap.size<=w'.heap.size
 block:∀ k,k<B->k≠b->w'.heap[k]?=w.heap[k]?
theorem BelowBut.refl (B b:Nat) (w:World):BelowBut B b w w:=⟨rfl,rfl,rfl,ye _,λ _ _ _=>rfl⟩
theorem BelowBut.trans {B b:Nat} {x y z:World} (h:BelowBut B b x y) (k:BelowBut B b y z):BelowBut B b x z :=
 ⟨k.os.trans h.os,k.tape.trans h.tape,k.output.trans h.output,yJ h.size k.size,λ i hi hb=>(k.block i hi hb).trans (h.block i hi hb)⟩
theorem BelowBut.of_below {B b:Nat} {x y:World} (h:Below B x y):BelowBut B b x y:=⟨h.os,h.tape,h.output,h.size,λ k hk _=>h.block k hk⟩
theorem BelowBut.grown {B b:Nat} {a w w':World} {row:Option Nat} (h:BelowBut B b a w) (hg:w.grownBy w' row) (hB:B<=w.heap.size) (hr:∀ k,row=some k->B<=k\/k=b):BelowBut B b a w' :=
 h.trans ⟨hg.os,hg.tape,hg.output,hg.size,λ k hk hb=>hg.block k (by omega) (λ e=>by have:=hr k e.symm;omega)⟩
theorem BelowBut.below {B b:Nat} {w w':World} (h:BelowBut B b w w') {C:Nat} (h1:C<=B) (h2:C<=b):Below C w w':=⟨h.os,h.tape,h.output,h.size,λ k hk=>h.block k (by omega) (by omega)⟩
theorem zhr (a b c d e f g h i:Value) (w:World):(Instr.index 166 (.agg #[a,b,c,d,e,f,g,h,i]) (.int .i64 0)).run Tryz.prog w=.ok (.agg #[a,b,c]) w:=by kernel_rfl
theorem zhn (a b c d e f g h i:Value) (w:World):(Instr.index 166 (.agg #[a,b,c,d,e,f,g,h,i]) (.int .i64 1)).run Tryz.prog w=.ok (.agg #[d,e,f]) w:=by kernel_rfl
theorem qhG (a b c d e f g h i:Value) (w:World):(Instr.index 166 (.agg #[a,b,c,d,e,f,g,h,i]) (.int .i64 2)).run Tryz.prog w=.ok (.agg #[g,h,i]) w:=by kernel_rfl
theorem qg4 (q:Q) (j:Nat) (hj:j<3) (w:World):∃ e,(edgesQ q)[j]?=some e/\(Instr.index 166 (edgesV q) (.int .i64 j)).run Tryz.prog w=.ok (E.val e) w:=by
 rcases (by omega:j=0\/j=1\/j=2)with rfl|rfl|rfl
 ·exact⟨_,rfl,zhr _ _ _ _ _ _ _ _ _ w⟩
 ·exact⟨_,rfl,zhn _ _ _ _ _ _ _ _ _ w⟩
 exact⟨_,rfl,qhG _ _ _ _ _ _ _ _ _ w⟩
theorem qdP {q:Q} {j:Nat} {e:E} (h:(edgesQ q)[j]?=some e) (M:List (E × List Q)):((edgesQ q).take (j+1)).foldl (λ M e=>addE M e q) M=addE (((edgesQ q).take j).foldl (λ M e=>addE M e q) M) e q:=by
 obtain⟨hj,rfl⟩:=yc.1 h;rw[Ys hj,List.foldl_append];rfl
theorem zgS {l:List Q} {k:Nat} {q:Q} (h:l[k]?=some q) (M:List (E × List Q)):ownL M (l.take (k+1))=addQ (ownL M (l.take k)) q:=by
 obtain⟨hk,rfl⟩:=yc.1 h;rw[ownL,Ys hk,List.foldl_append];rfl
theorem qfu (b base N:Nat) (M:List (E × List Q)) (vs:List Value) (l:List Q) (v:Value) (w:World) (hg:Grp w b base M vs) (hbw:base<=w.heap.size) (hv:HasQ w v l) (hvb:∀ k,v.ownBlock=some k->k<base/\k≠b) (hq:∀ q∈l,inQ q)
  (hN:∀ m∈M,m.2.length<=N) (hN':N+3*l.length<=1000000) :
  Calls Tryz.prog 56 #[.map (some b),v] w λ e w'=>e=.returned (.tuple #[])/\(∃ vs',Grp w' b base (ownL M l) vs')/\(∀ m∈ownL M l,m.2.length<=N+3*l.length)/\BelowBut base b w w':=by
 rcases hv with⟨rfl,rfl⟩|⟨a,cap,rfl,hlc,hcm,hqs⟩
 case inl =>
  go_enter func56,ntmps56;go_wp2;refine wp_loop_rounds 1 ?_;rw[rounds_succ];go_wp2
  go_end0
  exact⟨rfl,⟨vs,hg⟩,λ m hm=>by have:=hN m hm;omega,BelowBut.refl _ _ _⟩
 have A1:=hvb _ rfl;clear hvb;have HQ:=yK hq;clear hq;have HN:=yK hN;clear hN;have HS:=yK hqs;clear hqs;simp only[maxLen]at hcm;go_enter func56,ntmps56;go_wp2;go_loopw [10] (λ u wr=>∃ (k:Nat) (vs:List Value),k<=l.length/\u=.int .i64 k/\Hid (Grp wr b base (ownL M (l.take k)) vs/\(∀ m∈ownL M (l.take k),m.2.length<=N+3*k)/\BelowBut base b w wr)) (λ u _=>l.length-(intOf u).toNat)
 case atStart=>exact⟨0,vs,by omega,rfl,yK ⟨hg,HN.o,BelowBut.refl _ _ _⟩⟩
 case round =>
  obtain⟨k,vs,hk,rfl,HR⟩:=hrel;by_cases hlt:k<l.length
  ·obtain⟨q,H⟩:∃ q,l[k]?=some q:=⟨_,yb hlt⟩;have B2:=HQ.o q (yg H);have O:=HS.o.move (HR.o.2.2.block _ A1.1 A1.2);have c0:=O.at0 k q H;have c1:=O.at1 k q H;have c2:=O.at2 k q H;have HK:=yK H;clear H O;have B4:=yK B2;clear B2;obtain⟨x,y,s⟩:=q;go_wp2_with fail;have g:(wr.alloc (.cells #[.int .i64 x,.int .i64 y,.int .i64 s] 56)).heap[wr.heap.size]?=some (.cells #[.int .i64 x,.int .i64 y,.int .i64 s] 56):=yd wr _;have G:Bw wr (wr.alloc (.cells #[.int .i64 x,.int .i64 y,.int .i64 s] 56)):=Below.alloc (yf _ wr) (ye _) _;refine (qgV ⟨x,y,s⟩ B4.o (wr.alloc (.cells #[.int .i64 x,.int .i64 y,.int .i64 s] 56))).mono ?_;rintro e w2 ⟨rfl,d⟩;have P:=(d.block _ (ya.1 g).1).trans g;have r:=G.tm d;have Z:base<=wr.heap.size:=yJ hbw HR.o.2.2.size;have X:Hid (Grp w2 b base (ownL M (l.take k)) vs/\(∀ m∈ownL M (l.take k),m.2.length<=N+3*k)/\BelowBut base b w w2):=yK ⟨HR.o.1.below r,HR.o.2.1,HR.o.2.2.trans (.of_below (r.mono Z))⟩;have B6:=yK P;have A5:∀ u∈vs,u.ownBlock≠some wr.heap.size:=λ u hu e'=>by
    obtain⟨i,hi⟩:=yV hu;have C0:i<(ownL M (l.take k)).length:=(by rw[<- HR.o.1.len];exact (yc.1 hi).1);have:=((HR.o.1.each i u _ hi (yb C0)).lt _ e').2;omega
   have C2:=yK A5;clear A5;clear g G d r c0 c1 c2 P HR;go_wp2_with fail;obtain⟨wo,rfl⟩:∃ wo:World,wo=wr:=⟨_,rfl⟩;go_loopw [16] (λ u wr=>∃ (j:Nat) (vs:List Value),j<=3/\u=.int .i64 j/\Hid (wr.heap[wo.heap.size]?=some (.cells #[.int .i64 x,.int .i64 y,.int .i64 s] 56)/\Grp wr b base (((edgesQ ⟨x,y,s⟩).take j).foldl (λ M e=>addE M e ⟨x,y,s⟩) (ownL M (l.take k))) vs /\
    (∀ m∈((edgesQ ⟨x,y,s⟩).take j).foldl (λ M e=>addE M e ⟨x,y,s⟩) (ownL M (l.take k)),m.2.length<=N+3*k+j)/\BelowBut base b w wr/\(∀ u∈vs,u.ownBlock≠some wo.heap.size))) (λ u _=>3-(intOf u).toNat)
   case atStart=>exact⟨0,vs,by omega,rfl,yK ⟨B6.o,X.o.1,X.o.2.1,X.o.2.2,C2.o⟩⟩
   obtain⟨j,vs,hj,rfl,HR⟩:=hrel;by_cases hlj:j<3
   ·obtain⟨ed,A0,A2⟩:=qg4 ⟨x,y,s⟩ j hlj wr;have p:=yK A0;clear A0;have t:=yK (qaJ B4.o ed (yg p.o));obtain⟨ex,ey,ek⟩:=ed;unfold E.val at A2;go_upto_region 6 with (fail);have hR:=HR.o;have G:Bw wr (wr.alloc (.cells #[.int .i64 ex,.int .i64 ey,.int .i64 ek] 61)):=Below.alloc (yf _ wr) (ye _) _;have Z:base<=wr.heap.size:=yJ hbw hR.2.2.2.1.size;have A:=heapO (.cells #[.int .i64 ex,.int .i64 ey,.int .i64 ek] 61) hR.1;have I:(wr.alloc (.cells #[.int .i64 ex,.int .i64 ey,.int .i64 ek] 61)).heap[wr.heap.size]?=some (.cells #[.int .i64 ex,.int .i64 ey,.int .i64 ek] 61):=yd wr _;have F:=hR.2.1.below G;have B:BelowBut base b w (wr.alloc (.cells #[.int .i64 ex,.int .i64 ey,.int .i64 ek] 61))  :=hR.2.2.2.1.trans (.of_below (G.mono Z));have c:wr.heap.size<(wr.alloc (.cells #[.int .i64 ex,.int .i64 ey,.int .i64 ek] 61)).heap.size:=(by simp);have S:=yK hR.2.2.1;have J:=yK hR.2.2.2.2;have D0:=yK (ya.1 hR.1).1;clear G hR HR A2;revert A I F B c;generalize wr.alloc (.cells #[.int .i64 ex,.int .i64 ey,.int .i64 ek] 61)=W5;intro A I F B c;have d0:W5.cell? ⟨wo.heap.size,0,none⟩=some (.int .i64 x):=(by simp[World.cell?,A]);have d1:W5.cell? ⟨wo.heap.size,1,none⟩=some (.int .i64 y):=(by simp[World.cell?,A]);have d2:W5.cell? ⟨wo.heap.size,2,none⟩=some (.int .i64 s):=(by simp[World.cell?,A]);have d3:W5.cell? ⟨wr.heap.size,0,none⟩=some (.int .i64 ex):=(by simp[World.cell?,I]);have d4:W5.cell? ⟨wr.heap.size,1,none⟩=some (.int .i64 ey):=(by simp[World.cell?,I]);have d5:W5.cell? ⟨wr.heap.size,2,none⟩=some (.int .i64 ek):=(by simp[World.cell?,I]);have K:Bw W5 (W5.alloc (.cells #[.int .i64 x,.int .i64 y,.int .i64 s] 56)):=Below.alloc (yf _ W5) (ye _) _;obtain⟨M1,row,M2,D1,v,C9,W7,C5,Y,A8,R,D,L,C,U⟩:=(F.below K).entry t.o;have n:=Y.each M1.length v (⟨ex,ey,ek⟩,row) (by rw[<- A8];simp) (by simp);have A6:row.length<=N+3*k+j:=D _ S.o;have A7:W5.heap.size≠b:=λ e'=>by have:=F.map.lt;omega
    have C3:∀ (i:Nat) (u:Value),(qVals ⟨x,y,s⟩)[i]?=some u->W7.cell? ((⟨W5.heap.size,0,none⟩:Addr).add i)=some u:=λ i u hu=>C.cell (qa7 (W:=W5) ⟨x,y,s⟩ i u hu) (by rw[block_add];simpa using A7);have V:base<=W7.heap.size:=(by rw[U];simp;have:=B.size;omega);have B9:BelowBut base b w W7:=((B.trans (.of_below (K.mono (yJ hbw B.size)))).grown C (by simp;have:=B.size;omega) (λ k hk=>by cases hk;exact .inr rfl));have f:W7.heap[wo.heap.size]?=some (.cells #[.int .i64 x,.int .i64 y,.int .i64 s] 56):=(C.block _ (by have:=(ya.1 A).1;simp;omega) (λ e'=>by cases e';have:=F.map;unfold HasM at this;rw[A]at this;cases this)).trans (heapO _ A);obtain⟨vp,vc,rfl⟩:=zf n;unfold E.val at C5;have A4:=yK (R ⟨x,y,s⟩);clear R;have HM:Hid (row.length+1<=maxLen):=yK (by simp only[maxLen];omega);have C1:Hid ((row.length+1)*24<=140737488355328):=yK (by omega);have B0:=yK Y;have B3:=yK n;have D2:=yK A6;clear Y n A6 D A I F B c K C U A7;obtain⟨iQ,C4,B8,B7,B5⟩:=info_parts infoQ;go_wp2_with (first
     | (at_builtin;refine wpList_append_own_at _ rfl _ _ 22 rfl base 56 iQ _ 3 24 underlying22 C4 B8 B7 B5 rfl (by decide) (.slice vp row.length vc) row.length (qCells row) rfl B3.o ⟨W5.heap.size,0,none⟩ 1 1 (qVals ⟨x,y,s⟩) rfl rfl C3 (qav _) HM.o C1.o V ?_;intro v' w8 hown' hgrow _ hat;obtain⟨C8,T⟩:=B0.o.store A8 hown' hgrow hat;obtain⟨C7,C6,rfl⟩:=zf hown';have A3:=yK T;clear T))
    have hvb:(Value.slice vp row.length vc).ownBlock≠some wo.heap.size:=by
     rcases L (.slice vp row.length vc) (by simp)with h|h
     ·exact J.o _ h
     rw[h];simp[Value.ownBlock]
    have B1:wo.heap.size≠b:=λ e'=>by
     have:=B0.o.map;unfold HasM at this;rw[<- e',f]at this;cases this
    have D:∀ z,(Value.slice vp row.length vc).ownBlock=some z->base<=z:=λ z hz=>(B3.o.lt z hz).1;have A9:wo.heap.size<W7.heap.size:=(ya.1 f).1
    go_roundw
    case rel =>
     refine⟨j+1,_,by omega,by go_num,yK ⟨(zD _ B1 _).trans ((hgrow.block _ A9 (λ e'=>hvb e'.symm)).trans f),by rw[qdP p.o,A4.o];exact A3.o,?_,(B9.grown hgrow V (λ k hk=>.inl (D k hk))).trans ⟨rfl,rfl,rfl,by rw[qaV];exact ye _,λ k _ hkb=>zD _ hkb _⟩,?_⟩⟩
     ·rw[qdP p.o];intro m hm;have:=zgq S.o m hm;omega
     intro u hu;rcases yY.1 hu with h|h
     ·rcases L u (by simp[h])with h1|h1
      ·exact J.o _ h1
      rw[h1];simp[Value.ownBlock]
     rcases Ye.1 h with rfl|h
     ·rcases hat with h1|h1
      ·rw[h1];exact hvb
      rw[h1];simp;omega
     rcases L u (by simp[h])with h1|h1
     ·exact J.o _ h1
     rw[h1];simp[Value.ownBlock]
    case measure=>simp[intOf];omega
   obtain rfl:j=3:=(by omega);have hF:=HR.o;have HF:Hid (Grp wr b base (ownL M (l.take (k+1))) vs/\(∀ m∈ownL M (l.take (k+1)),m.2.length<=N+3*(k+1))/\BelowBut base b w wr):=yK (by
    rw[zgS HK.o];exact⟨hF.2.1,λ m hm=>by have:=hF.2.2.1 m hm;omega,hF.2.2.2.1⟩)
   clear hF HR;go_wp2_with fail
   go_roundw
   case rel=>exact⟨k+1,vs,by omega,by go_num,HF⟩
   case measure=>simp[intOf];omega
  obtain rfl:k=l.length:=by omega
  have hF:=HR.o;rw[Yd]at hF;have HF:=yK hF;clear hF HR;go_wp2
  go_end0
  exact⟨rfl,⟨vs,HF.o.1⟩,HF.o.2.1,HF.o.2.2⟩
end Go.Proofs.YtiinlplgloaanaaGreatDoor
