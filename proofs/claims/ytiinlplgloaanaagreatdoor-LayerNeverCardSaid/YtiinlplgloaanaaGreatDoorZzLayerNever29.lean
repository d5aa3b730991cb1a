/- own: the quarters that have each edge. -/
import Derived.Test.YtiinlplgloaanaaGreatDoorZzLayerNever28
set_option linter.all false
set_option maxRecDepth 100000
set_option maxHeartbeats 4000000
namespace Go.Proofs.YtiinlplgloaanaaGreatDoor
open Go.Proofs.Tryz Go.RowKit
attribute [local go_sem] Oper.semAt_some
def addE (M:List (E × List Q)) (e:E) (q:Q):List (E × List Q) :=
 match M with
 | []=>[(e,[q])]
 | m :: M=>if m.1=e then (e,m.2++[q]) :: M else m :: addE M e q
def addQ (M:List (E × List Q)) (q:Q):List (E × List Q):=(edgesQ q).foldl (λ M e=>addE M e q) M
def ownL (M:List (E × List Q)) (l:List Q):List (E × List Q):=l.foldl addQ M
theorem qcP {M1 M2:List (E × List Q)} {e:E} {l:List Q} (h:∀ m∈M1,m.1≠e) (q:Q):addE (M1++(e,l) :: M2) e q=M1++(e,l++[q]) :: M2:=by
 induction M1 with
 | nil=>simp[addE]
 | cons m M1 ih =>
  have h1:=h m (by simp);simp only[Yg,addE,Yz h1];rw[ih (λ m hm=>h m (by simp[hm]))]
theorem qcg {M:List (E × List Q)} {e:E} (h:∀ m∈M,m.1≠e) (q:Q):addE M e q=M++[(e,[q])]:=by
 induction M with
 | nil=>rfl
 | cons m M ih =>
  have h1:=h m (by simp);simp only[Yg,addE,Yz h1];rw[ih (λ m hm=>h m (by simp[hm]))]
theorem zfQ {M:List (E × List Q)} {e:E} {q:Q} {N:Nat} (h:∀ m∈M,m.2.length≤N):∀ m∈addE M e q,m.2.length≤N+1:=by
 induction M with
 | nil=>intro m hm;simp[addE]at hm;subst hm;simp
 | cons a M ih =>
  intro m hm;simp only[addE]at hm;split at hm
  ·rcases Ye.1 hm with rfl|hm
   ·have:=h a (by simp);simp;omega
   have:=h m (by simp[hm]);omega
  rcases Ye.1 hm with rfl|hm
  ·have:=h m (by simp);omega
  exact ih (λ m hm=>h m (by simp[hm])) m hm
def zipM (M:List (E × List Q)) (vs:List Value):List (E × Value):=List.zipWith (λ m v=>(m.1,v)) M vs
theorem za2 {M1 M2:List (E × List Q)} {v1 v2:List Value} (h:v1.length=M1.length):zipM (M1++M2) (v1++v2)=zipM M1 v1++zipM M2 v2:=by
 unfold zipM;exact List.zipWith_append h.symm
theorem qge {M:List (E × List Q)} {vs:List Value} (h:vs.length=M.length):(zipM M vs).map (·.1)=M.map (·.1):=by
 induction M generalizing vs with
 | nil=>simp[zipM]
 | cons m M ih =>
  cases vs with
  | nil=>simp at h
  | cons v vs =>
   have:=ih (vs:=vs) (by simpa using h);simp only[zipM,List.zipWith_cons_cons,yM]at this ⊢;rw[this]
theorem zcO {M:List (E × List Q)} {vs:List Value} {p:E × Value} (h:p∈zipM M vs):∃ m∈M,m.1=p.1:=by
 induction M generalizing vs with
 | nil=>simp[zipM]at h
 | cons m M ih =>
  cases vs with
  | nil=>simp[zipM]at h
  | cons v vs =>
   simp only[zipM,List.zipWith_cons_cons,Ye]at h;rcases h with rfl|h
   ·exact⟨m,by simp,rfl⟩
   obtain⟨a,ha,e⟩:=ih h;exact⟨a,by simp[ha],e⟩
structure Grp (W:World) (b base:Nat) (M:List (E × List Q)) (vs:List Value):Prop where
 map:HasM E.val W b (zipM M vs)
 len:vs.length=M.length
 ok:∀ m∈M,okE m.1
 keys:(M.map (·.1)).Nodup
 each:∀ (i:Nat) (v:Value) (m:E × List Q),vs[i]?=some v→M[i]?=some m→OwnQ W base v m.2
 apart:∀ (i j:Nat) (u v:Value),i≠j→vs[i]?=some u→vs[j]?=some v→u.ownBlock=none∨u.ownBlock≠v.ownBlock
theorem Grp.below {W W':World} {b base:Nat} {M:List (E × List Q)} {vs:List Value} (h:Grp W b base M vs) (e:Below W.heap.size W W'):Grp W' b base M vs :=
 ⟨h.map.below e,h.len,h.ok,h.keys,λ i v m hv hm=>(h.each i v m hv hm).below e,h.apart⟩
theorem OwnQ.ne_map {W:World} {b base:Nat} {v:Value} {l:List Q} {L:List (E × Value)} (h:OwnQ W base v l) (hm:HasM E.val W b L):∀ k,v.ownBlock=some k→k≠b:=by
 intro k hk e;subst e;rcases h.2 with⟨rfl,_⟩|⟨g,cap,cur,rfl,_,h2,_⟩
 ·cases hk
 simp only[Value.ownBlock,yo]at hk;subst hk;unfold HasM at hm;rw[h2]at hm;cases hm
theorem zeL {M1 M2:List (E × List Q)} {e:E} {l:List Q} (h:((M1++(e,l) :: M2).map (·.1)).Nodup):∀ m∈M1,m.1≠e:=by
 intro m hm he;rw[Ym,List.nodup_append]at h;exact h.2.2 m.1 (yP.2 ⟨m,hm,rfl⟩) e (by simp) he
theorem Grp.entry {W:World} {b base:Nat} {M:List (E × List Q)} {vs:List Value} (h:Grp W b base M vs) {e:E} (he:okE e) :
  ∃ M1 l M2 vs1 v vs2 W1,(Instr.mapEntry 130 (.map (some b)) (E.val e)).run Tryz.prog W=.ok (.tuple #[v,.int .i64 M1.length]) W1∧Grp W1 b base (M1++(e,l) :: M2) (vs1++v :: vs2)∧vs1.length=M1.length ∧
   (∀ q,addE M e q=M1++(e,l++[q]) :: M2)∧(∀ N,(∀ m∈M,m.2.length≤N)→l.length≤N)∧(∀ u∈vs1++v :: vs2,u∈vs∨u=.slice none 0 0)∧W.grownBy W1 (some b)∧W1.heap.size=W.heap.size:=by
 by_cases hm:∃ m∈M,m.1=e
 ·obtain⟨⟨e',l⟩,hm,rfl⟩:=hm;obtain⟨M1,M2,rfl⟩:=List.append_of_mem hm;have hk:M1.length<vs.length:=by rw[h.len];simp
  obtain⟨vs1,v,vs2,rfl,hl1⟩:∃ vs1 v vs2,vs=vs1++v :: vs2∧vs1.length=M1.length :=
   ⟨vs.take M1.length,vs[M1.length],vs.drop (M1.length+1),by rw[← List.drop_eq_getElem_cons hk,List.take_append_drop],by rw[Yf];omega⟩
  have hz:zipM (M1++(e',l) :: M2) (vs1++v :: vs2)=zipM M1 vs1++(e',v) :: zipM M2 vs2:=by rw[za2 hl1];rfl
  have hmap:=h.map;rw[hz]at hmap;have hkeys:((zipM M1 vs1++(e',v) :: zipM M2 vs2).map (·.1)).Nodup:=by rw[← hz,qge h.len];exact h.keys
  have hlz:(zipM M1 vs1).length=M1.length:=by simp[zipM,hl1]
  have hrun:=qcM encE underlying130 hmap (λ p hp=>by
   rw[← hz]at hp;obtain⟨m,hm,e⟩:=zcO hp;rw[← e];exact h.ok m hm) hkeys
  rw[hlz]at hrun;exact⟨M1,l,M2,vs1,v,vs2,W,hrun,h,hl1,λ q=>qcP (zeL h.keys) q,λ N hN=>hN (e',l) (by simp),λ u hu=>.inl hu,⟨rfl,rfl,rfl,ye _,λ _ _ _=>rfl⟩,rfl⟩
 ·have hne:∀ m∈M,m.1≠e:=λ m hm' e'=>hm ⟨m,hm',e'⟩;have hz:zipM (M++[(e,[])]) (vs++[.slice none 0 0])=zipM M vs++[(e,.slice none 0 0)]:=by rw[za2 h.len];rfl
  have hlz:(zipM M vs).length=M.length:=by simp[zipM,h.len]
  have hrun:=zcs encE underlying130 (zeroValue22 W) h.map (λ p hp=>by
   obtain⟨m,hm,e⟩:=zcO hp;rw[← e];exact h.ok m hm) he (λ p hp e'=>by
   obtain⟨m,hm,e''⟩:=zcO hp;exact hne m hm (e''.trans e'))
  rw[hlz,← hz]at hrun;have hgr:=qbU (enc:=E.val) W b (zipM (M++[(e,[])]) (vs++[.slice none 0 0]));refine⟨M,[],[],vs,.slice none 0 0,[],_,hrun,⟨HasM.put h.map.lt _,by simp[h.len],λ m hm=>?_,?_,λ i v m hv hm=>?_,λ i j u v hij hu hv=>?_⟩,h.len,λ q=>by rw[qcg hne q];rfl,λ N hN=>by simp,λ u hu=>by simpa using hu,hgr,qba _ _ _⟩
  ·rcases yY.1 hm with hm|hm
   ·exact h.ok m hm
   rw[yU.1 hm];exact he
  ·rw[Ym,List.nodup_append];exact⟨h.keys,by simp,λ a ha b hb e'=>by
    obtain⟨m,hmm,rfl⟩:=yP.1 ha;simp at hb;subst hb;exact hne m hmm e'⟩
  ·by_cases hi:i<vs.length
   ·rw[yX hi]at hv;rw[yX (by rw[← h.len];exact hi)]at hm;have ho:=h.each i v m hv hm;exact ho.kept hgr (by
     by_cases hv:v.ownBlock=none
     ·exact .inl hv
     exact .inr (λ e'=>ho.ne_map h.map b e' rfl))
   have:i=vs.length:=(by have:=(yc.1 hv).1;simp at this;omega);subst this;rw[yW (ye _)]at hv;rw[yW (by rw[h.len];exact ye _)]at hm;simp at hv;simp[h.len]at hm;subst hv;subst hm;exact OwnQ.nil _ _
  by_cases hi:i<vs.length
  ·by_cases hj:j<vs.length
   ·rw[yX hi]at hu;rw[yX hj]at hv;exact h.apart i j u v hij hu hv
   have:j=vs.length:=(by have:=(yc.1 hv).1;simp at this;omega);subst this;rw[yW (ye _)]at hv;simp at hv;subst hv;by_cases hu0:u.ownBlock=none
   ·exact .inl hu0
   exact .inr (λ e'=>hu0 (by rw[e'];rfl))
  have:i=vs.length:=by have:=(yc.1 hu).1;simp at this;omega
  subst this;rw[yW (ye _)]at hu;simp at hu;subst hu;exact .inl rfl
theorem Grp.store {W w6:World} {b base:Nat} {M1 M2:List (E × List Q)} {e:E} {l:List Q} {vs1 vs2:List Value} {v v':Value} {q:Q} (h:Grp W b base (M1++(e,l) :: M2) (vs1++v :: vs2)) (hl1:vs1.length=M1.length)
  (hown:w6.ownsRow base 56 3 v' (l.length+1) (qCells l++qVals q)) (hgrow:W.grownBy w6 v.ownBlock) (hb':v'.ownBlock=v.ownBlock∨v'.ownBlock=some W.heap.size) :
  (Instr.entryStore 130 (.map (some b)) (.int .i64 M1.length) v').run Tryz.prog w6=.ok () (putM E.val w6 b (zipM (M1++(e,l++[q]) :: M2) (vs1++v' :: vs2))) ∧
   Grp (putM E.val w6 b (zipM (M1++(e,l++[q]) :: M2) (vs1++v' :: vs2))) b base (M1++(e,l++[q]) :: M2) (vs1++v' :: vs2):=by
 have hv:=h.each M1.length v (e,l) (by rw[← hl1];simp) (by simp);have hbv:=hv.ne_map h.map;have hz:zipM (M1++(e,l) :: M2) (vs1++v :: vs2)=zipM M1 vs1++(e,v) :: zipM M2 vs2:=by rw[za2 hl1];rfl
 have hz':zipM (M1++(e,l++[q]) :: M2) (vs1++v' :: vs2)=zipM M1 vs1++(e,v') :: zipM M2 vs2:=by rw[za2 hl1];rfl
 have hlz:(zipM M1 vs1).length=M1.length:=by simp[zipM,hl1]
 have hm6:HasM E.val w6 b (zipM M1 vs1++(e,v) :: zipM M2 vs2):=by rw[← hz];exact h.map.grown hgrow (λ e'=>hbv b e'.symm rfl)
 have hrun:=qdk (P:=Tryz.prog) hm6 130 v';rw[hlz,← hz']at hrun;refine⟨hrun,HasM.put hm6.lt _,by have:=h.len;simp at this ⊢;omega,λ m hm=>?_,?_,λ i u m hu hm=>?_,λ i j u x hij hu hx=>?_⟩
 ·rcases yY.1 hm with hm|hm
  ·exact h.ok m (by simp[hm])
  rcases Ye.1 hm with rfl|hm
  ·exact h.ok (e,l) (by simp)
  exact h.ok m (by simp[hm])
 ·have:=h.keys;simpa using this
 ·have hpk:=qbU (enc:=E.val) w6 b (zipM (M1++(e,l++[q]) :: M2) (vs1++v' :: vs2));have fin:∀ {u:Value} {r:List Q},OwnQ w6 base u r→OwnQ (putM E.val w6 b (zipM (M1++(e,l++[q]) :: M2) (vs1++v' :: vs2))) base u r:=λ {u r} hu=>by
   refine hu.kept hpk ?_;by_cases hu0:u.ownBlock=none
   ·exact .inl hu0
   exact .inr (λ e'=>hu.ne_map hm6 b e' rfl)
  by_cases hi:i=M1.length
  ·subst hi;rw[← hl1]at hu;simp at hu;simp at hm;subst hu;subst hm;refine fin ?_;show w6.ownsRow base _ 3 v' (l++[q]).length (qCells (l++[q]));rw[zaj,yL];exact hown
  have hu':(vs1++v :: vs2)[i]?=some u:=by
   rw[List.getElem?_append]at hu ⊢;split at hu
   ·rename_i hlt;rw[YA hlt];exact hu
   rename_i hlt;rw[Yz hlt];rw[List.getElem?_cons,Yz (by omega)]at hu ⊢;exact hu
  have hm':(M1++(e,l) :: M2)[i]?=some m:=by
   rw[List.getElem?_append]at hm ⊢;split at hm
   ·rename_i hlt;rw[YA hlt];exact hm
   rename_i hlt;rw[Yz hlt];rw[List.getElem?_cons,Yz (by omega)]at hm ⊢;exact hm
  have ho:=h.each i u m hu' hm';exact fin (ho.kept hgrow (h.apart i M1.length u v hi hu' (by rw[← hl1];simp)))
 ·-- the blocks are apart
  have hold:∀ {i:Nat} {u:Value},i≠M1.length→(vs1++v' :: vs2)[i]?=some u→(vs1++v :: vs2)[i]?=some u:=λ {i u} hi hu=>by
   rw[List.getElem?_append]at hu ⊢;split at hu
   ·rename_i hlt;rw[YA hlt];exact hu
   rename_i hlt;rw[Yz hlt];rw[List.getElem?_cons,Yz (by omega)]at hu ⊢;exact hu
  have hlt:∀ {i:Nat} {u:Value},(vs1++v :: vs2)[i]?=some u→∀ k,u.ownBlock=some k→k<W.heap.size:=λ {i u} hu k hk=>by
   have hi:i<(M1++(e,l) :: M2).length:=(by rw[← h.len];exact (yc.1 hu).1);exact ((h.each i u _ hu (yb hi)).lt k hk).2
  have hv1:(vs1++v :: vs2)[M1.length]?=some v:=by rw[← hl1];simp
  by_cases hi:i=M1.length
  ·have hj:j≠M1.length:=λ e'=>hij (hi.trans e'.symm);subst hi;rw[← hl1]at hu;simp at hu;subst hu;have hx':=hold hj hx;rcases hb' with h1|h1
   ·rw[h1];exact h.apart _ j v x (Ne.symm hj) hv1 hx'
   refine .inr (λ e'=>?_);rw[h1]at e';have:=hlt hx' _ e'.symm;omega
  have hu':=hold hi hu;by_cases hj:j=M1.length
  ·subst hj;rw[← hl1]at hx;simp at hx;subst hx;rcases hb' with h1|h1
   ·rw[h1];exact h.apart i _ u v hi hu' hv1
   by_cases hu0:u.ownBlock=none
   ·exact .inl hu0
   refine .inr (λ e'=>?_);rw[h1]at e';have:=hlt hu' _ e';omega
  exact h.apart i j u x hij hu' (hold hj hx)
structure BelowBut (B b:Nat) (w w':World):Prop where
 os:w'.os=w.os
 tape:w'.tape=w.tape
 output:w'.output=w.output
 size:w.heap.size≤w'.heap.size
 block:∀ k,k<B→k≠b→w'.heap[k]?=w.heap[k]?
theorem BelowBut.refl (B b:Nat) (w:World):BelowBut B b w w:=⟨rfl,rfl,rfl,ye _,λ _ _ _=>rfl⟩
theorem BelowBut.trans {B b:Nat} {x y z:World} (h:BelowBut B b x y) (k:BelowBut B b y z):BelowBut B b x z :=
 ⟨k.os.trans h.os,k.tape.trans h.tape,k.output.trans h.output,yJ h.size k.size,λ i hi hb=>(k.block i hi hb).trans (h.block i hi hb)⟩
theorem BelowBut.of_below {B b:Nat} {x y:World} (h:Below B x y):BelowBut B b x y:=⟨h.os,h.tape,h.output,h.size,λ k hk _=>h.block k hk⟩
theorem BelowBut.grown {B b:Nat} {a w w':World} {row:Option Nat} (h:BelowBut B b a w) (hg:w.grownBy w' row) (hB:B≤w.heap.size) (hr:∀ k,row=some k→B≤k∨k=b):BelowBut B b a w' :=
 h.trans ⟨hg.os,hg.tape,hg.output,hg.size,λ k hk hb=>hg.block k (by omega) (λ e=>by have:=hr k e.symm;omega)⟩
theorem BelowBut.below {B b:Nat} {w w':World} (h:BelowBut B b w w') {C:Nat} (h1:C≤B) (h2:C≤b):Below C w w':=⟨h.os,h.tape,h.output,h.size,λ k hk=>h.block k (by omega) (by omega)⟩
theorem zgH (a b c d e f g h i:Value) (w:World):(Instr.index 166 (.agg #[a,b,c,d,e,f,g,h,i]) (.int .i64 0)).run Tryz.prog w=.ok (.agg #[a,b,c]) w:=by kernel_rfl
theorem qgL (a b c d e f g h i:Value) (w:World):(Instr.index 166 (.agg #[a,b,c,d,e,f,g,h,i]) (.int .i64 1)).run Tryz.prog w=.ok (.agg #[d,e,f]) w:=by kernel_rfl
theorem qgZ (a b c d e f g h i:Value) (w:World):(Instr.index 166 (.agg #[a,b,c,d,e,f,g,h,i]) (.int .i64 2)).run Tryz.prog w=.ok (.agg #[g,h,i]) w:=by kernel_rfl
theorem zgC (q:Q) (j:Nat) (hj:j<3) (w:World):∃ e,(edgesQ q)[j]?=some e∧(Instr.index 166 (edgesV q) (.int .i64 j)).run Tryz.prog w=.ok (E.val e) w:=by
 rcases (by omega:j=0∨j=1∨j=2)with rfl|rfl|rfl
 ·exact⟨_,rfl,zgH _ _ _ _ _ _ _ _ _ w⟩
 ·exact⟨_,rfl,qgL _ _ _ _ _ _ _ _ _ w⟩
 exact⟨_,rfl,qgZ _ _ _ _ _ _ _ _ _ w⟩
theorem zdD {q:Q} {j:Nat} {e:E} (h:(edgesQ q)[j]?=some e) (M:List (E × List Q)):((edgesQ q).take (j+1)).foldl (λ M e=>addE M e q) M=addE (((edgesQ q).take j).foldl (λ M e=>addE M e q) M) e q:=by
 obtain⟨hj,rfl⟩:=yc.1 h;rw[Ys hj,List.foldl_append];rfl
theorem zgc {l:List Q} {k:Nat} {q:Q} (h:l[k]?=some q) (M:List (E × List Q)):ownL M (l.take (k+1))=addQ (ownL M (l.take k)) q:=by
 obtain⟨hk,rfl⟩:=yc.1 h;rw[ownL,Ys hk,List.foldl_append];rfl
theorem qho (b base N:Nat) (M:List (E × List Q)) (vs:List Value) (l:List Q) (v:Value) (w:World) (hg:Grp w b base M vs) (hbw:base≤w.heap.size) (hv:HasQ w v l) (hvb:∀ k,v.ownBlock=some k→k<base∧k≠b) (hq:∀ q∈l,inQ q)
  (hN:∀ m∈M,m.2.length≤N) (hN':N+3*l.length≤1000000) :
  Calls Tryz.prog 56 #[.map (some b),v] w λ e w'=>e=.returned (.tuple #[])∧(∃ vs',Grp w' b base (ownL M l) vs')∧(∀ m∈ownL M l,m.2.length≤N+3*l.length)∧BelowBut base b w w':=by
 rcases hv with⟨rfl,rfl⟩|⟨a,cap,rfl,hlc,hcm,hqs⟩
 case inl =>
  go_enter func56,ntmps56;go_wp2;refine wp_loop_rounds 1 ?_;rw[rounds_succ];go_wp2
  go_end0
  exact⟨rfl,⟨vs,hg⟩,λ m hm=>by have:=hN m hm;omega,BelowBut.refl _ _ _⟩
 have hab:=hvb _ rfl;clear hvb;have HQ:=yK hq;clear hq;have HN:=yK hN;clear hN;have HS:=yK hqs;clear hqs;simp only[maxLen]at hcm;go_enter func56,ntmps56;go_wp2;go_loopw [10] (λ u wr=>∃ (k:Nat) (vs:List Value),k≤l.length∧u=.int .i64 k∧Hid (Grp wr b base (ownL M (l.take k)) vs∧(∀ m∈ownL M (l.take k),m.2.length≤N+3*k)∧BelowBut base b w wr)) (λ u _=>l.length-(intOf u).toNat)
 case atStart=>exact⟨0,vs,by omega,rfl,yK ⟨hg,HN.out,BelowBut.refl _ _ _⟩⟩
 case round =>
  obtain⟨k,vs,hk,rfl,HR⟩:=hrel;by_cases hlt:k<l.length
  ·obtain⟨q,hqk⟩:∃ q,l[k]?=some q:=⟨_,yb hlt⟩;have hin:=HQ.out q (yg hqk);have hs2:=HS.out.move (HR.out.2.2.block _ hab.1 hab.2);have c0:=hs2.at0 k q hqk;have c1:=hs2.at1 k q hqk;have c2:=hs2.at2 k q hqk;have HK:=yK hqk;clear hqk hs2;have HIN:=yK hin;clear hin;obtain⟨x,y,s⟩:=q;go_wp2_with fail;have hbx:(wr.alloc (.cells #[.int .i64 x,.int .i64 y,.int .i64 s] 56)).heap[wr.heap.size]?=some (.cells #[.int .i64 x,.int .i64 y,.int .i64 s] 56):=yd wr _;have hal:Below wr.heap.size wr (wr.alloc (.cells #[.int .i64 x,.int .i64 y,.int .i64 s] 56)):=Below.alloc (yf _ wr) (ye _) _;refine (zf4 ⟨x,y,s⟩ HIN.out (wr.alloc (.cells #[.int .i64 x,.int .i64 y,.int .i64 s] 56))).mono ?_;rintro e w2 ⟨rfl,hB2⟩;have hbx2:=(hB2.block _ (ya.1 hbx).1).trans hbx;have hB3:=hal.trans (hB2.mono hal.size);have hbr:base≤wr.heap.size:=yJ hbw HR.out.2.2.size;have HR2:Hid (Grp w2 b base (ownL M (l.take k)) vs∧(∀ m∈ownL M (l.take k),m.2.length≤N+3*k)∧BelowBut base b w w2):=yK ⟨HR.out.1.below hB3,HR.out.2.1,HR.out.2.2.trans (.of_below (hB3.mono hbr))⟩;have HBX:=yK hbx2;have hna:∀ u∈vs,u.ownBlock≠some wr.heap.size:=λ u hu e'=>by
    obtain⟨i,hi⟩:=yV hu;have hi':i<(ownL M (l.take k)).length:=(by rw[← HR.out.1.len];exact (yc.1 hi).1);have:=((HR.out.1.each i u _ hi (yb hi')).lt _ e').2;omega
   have HNA:=yK hna;clear hna;clear hbx hal hB2 hB3 c0 c1 c2 hbx2 HR;go_wp2_with fail;obtain⟨wo,rfl⟩:∃ wo:World,wo=wr:=⟨_,rfl⟩;go_loopw [16] (λ u wr=>∃ (j:Nat) (vs:List Value),j≤3∧u=.int .i64 j∧Hid (wr.heap[wo.heap.size]?=some (.cells #[.int .i64 x,.int .i64 y,.int .i64 s] 56)∧Grp wr b base (((edgesQ ⟨x,y,s⟩).take j).foldl (λ M e=>addE M e ⟨x,y,s⟩) (ownL M (l.take k))) vs ∧
    (∀ m∈((edgesQ ⟨x,y,s⟩).take j).foldl (λ M e=>addE M e ⟨x,y,s⟩) (ownL M (l.take k)),m.2.length≤N+3*k+j)∧BelowBut base b w wr∧(∀ u∈vs,u.ownBlock≠some wo.heap.size))) (λ u _=>3-(intOf u).toNat)
   case atStart=>exact⟨0,vs,by omega,rfl,yK ⟨HBX.out,HR2.out.1,HR2.out.2.1,HR2.out.2.2,HNA.out⟩⟩
   obtain⟨j,vs,hj,rfl,HR⟩:=hrel;by_cases hlj:j<3
   ·obtain⟨ed,hed,hix⟩:=zgC ⟨x,y,s⟩ j hlj wr;have HED:=yK hed;clear hed;have HOKE:=yK (qaB HIN.out ed (yg HED.out));obtain⟨ex,ey,ek⟩:=ed;unfold E.val at hix;go_upto_region 6 with (fail);have hR:=HR.out;have hal:Below wr.heap.size wr (wr.alloc (.cells #[.int .i64 ex,.int .i64 ey,.int .i64 ek] 61)):=Below.alloc (yf _ wr) (ye _) _;have hbr:base≤wr.heap.size:=yJ hbw hR.2.2.2.1.size;have hq5:=heapO (.cells #[.int .i64 ex,.int .i64 ey,.int .i64 ek] 61) hR.1;have he5:(wr.alloc (.cells #[.int .i64 ex,.int .i64 ey,.int .i64 ek] 61)).heap[wr.heap.size]?=some (.cells #[.int .i64 ex,.int .i64 ey,.int .i64 ek] 61):=yd wr _;have hg5:=hR.2.1.below hal;have hB5:BelowBut base b w (wr.alloc (.cells #[.int .i64 ex,.int .i64 ey,.int .i64 ek] 61))  :=hR.2.2.2.1.trans (.of_below (hal.mono hbr));have hs5:wr.heap.size<(wr.alloc (.cells #[.int .i64 ex,.int .i64 ey,.int .i64 ek] 61)).heap.size:=(by simp);have HROW:=yK hR.2.2.1;have HNA2:=yK hR.2.2.2.2;have HWO:=yK (ya.1 hR.1).1;clear hal hR HR hix;revert hq5 he5 hg5 hB5 hs5;generalize wr.alloc (.cells #[.int .i64 ex,.int .i64 ey,.int .i64 ek] 61)=W5;intro hq5 he5 hg5 hB5 hs5;have d0:W5.cell? ⟨wo.heap.size,0,none⟩=some (.int .i64 x):=(by simp[World.cell?,hq5]);have d1:W5.cell? ⟨wo.heap.size,1,none⟩=some (.int .i64 y):=(by simp[World.cell?,hq5]);have d2:W5.cell? ⟨wo.heap.size,2,none⟩=some (.int .i64 s):=(by simp[World.cell?,hq5]);have d3:W5.cell? ⟨wr.heap.size,0,none⟩=some (.int .i64 ex):=(by simp[World.cell?,he5]);have d4:W5.cell? ⟨wr.heap.size,1,none⟩=some (.int .i64 ey):=(by simp[World.cell?,he5]);have d5:W5.cell? ⟨wr.heap.size,2,none⟩=some (.int .i64 ek):=(by simp[World.cell?,he5]);have hal6:Below W5.heap.size W5 (W5.alloc (.cells #[.int .i64 x,.int .i64 y,.int .i64 s] 56)):=Below.alloc (yf _ W5) (ye _) _;obtain⟨M1,row,M2,vs1,v,vs2,W7,hme,hg7,hl1,hadd,hrow,hvs7,hgr7,hsz7⟩:=(hg5.below hal6).entry HOKE.out;have hv7:=hg7.each M1.length v (⟨ex,ey,ek⟩,row) (by rw[← hl1];simp) (by simp);have hrl:row.length≤N+3*k+j:=hrow _ HROW.out;have hnb:W5.heap.size≠b:=λ e'=>by have:=hg5.map.lt;omega
    have hc7:∀ (i:Nat) (u:Value),(qVals ⟨x,y,s⟩)[i]?=some u→W7.cell? ((⟨W5.heap.size,0,none⟩:Addr).add i)=some u:=λ i u hu=>hgr7.cell (qaY (W:=W5) ⟨x,y,s⟩ i u hu) (by rw[block_add];simpa using hnb);have hsz8:base≤W7.heap.size:=(by rw[hsz7];simp;have:=hB5.size;omega);have hB7:BelowBut base b w W7:=((hB5.trans (.of_below (hal6.mono (yJ hbw hB5.size)))).grown hgr7 (by simp;have:=hB5.size;omega) (λ k hk=>by cases hk;exact .inr rfl));have hq7:W7.heap[wo.heap.size]?=some (.cells #[.int .i64 x,.int .i64 y,.int .i64 s] 56):=(hgr7.block _ (by have:=(ya.1 hq5).1;simp;omega) (λ e'=>by cases e';have:=hg5.map;unfold HasM at this;rw[hq5]at this;cases this)).trans (heapO _ hq5);obtain⟨vp,vc,rfl⟩:=qg hv7;unfold E.val at hme;have HADD:=yK (hadd ⟨x,y,s⟩);clear hadd;have HM:Hid (row.length+1≤maxLen):=yK (by simp only[maxLen];omega);have HM2:Hid ((row.length+1)*24≤140737488355328):=yK (by omega);have HG7:=yK hg7;have HV7:=yK hv7;have HRL:=yK hrl;clear hg7 hv7 hrl hrow hq5 he5 hg5 hB5 hs5 hal6 hgr7 hsz7 hnb;obtain⟨iQ,hiQ,hzQ,hsQ,hbQ⟩:=info_parts infoQ;go_wp2_with (first
     | (at_builtin;refine wpList_append_own_at _ rfl _ _ 22 rfl base 56 iQ _ 3 24 underlying22 hiQ hzQ hsQ hbQ rfl (by decide) (.slice vp row.length vc) row.length (qCells row) rfl HV7.out ⟨W5.heap.size,0,none⟩ 1 1 (qVals ⟨x,y,s⟩) rfl rfl hc7 (zao _) HM.out HM2.out hsz8 ?_;intro v' w8 hown' hgrow _ hat;obtain⟨hst,hgst⟩:=HG7.out.store hl1 hown' hgrow hat;obtain⟨p'',c'',rfl⟩:=qg hown';have HGST:=yK hgst;clear hgst))
    have hvb:(Value.slice vp row.length vc).ownBlock≠some wo.heap.size:=by
     rcases hvs7 (.slice vp row.length vc) (by simp)with h|h
     ·exact HNA2.out _ h
     rw[h];simp[Value.ownBlock]
    have hwob:wo.heap.size≠b:=λ e'=>by
     have:=HG7.out.map;unfold HasM at this;rw[← e',hq7]at this;cases this
    have hrow:∀ z,(Value.slice vp row.length vc).ownBlock=some z→base≤z:=λ z hz=>(HV7.out.lt z hz).1;have hwo7:wo.heap.size<W7.heap.size:=(ya.1 hq7).1
    go_roundw
    case rel =>
     refine⟨j+1,_,by omega,by go_num,yK ⟨(qH _ hwob _).trans ((hgrow.block _ hwo7 (λ e'=>hvb e'.symm)).trans hq7),by rw[zdD HED.out,HADD.out];exact HGST.out,?_,(hB7.grown hgrow hsz8 (λ k hk=>.inl (hrow k hk))).trans ⟨rfl,rfl,rfl,by rw[qba];exact ye _,λ k _ hkb=>qH _ hkb _⟩,?_⟩⟩
     ·rw[zdD HED.out];intro m hm;have:=zfQ HROW.out m hm;omega
     intro u hu;rcases yY.1 hu with h|h
     ·rcases hvs7 u (by simp[h])with h1|h1
      ·exact HNA2.out _ h1
      rw[h1];simp[Value.ownBlock]
     rcases Ye.1 h with rfl|h
     ·rcases hat with h1|h1
      ·rw[h1];exact hvb
      rw[h1];simp;omega
     rcases hvs7 u (by simp[h])with h1|h1
     ·exact HNA2.out _ h1
     rw[h1];simp[Value.ownBlock]
    case measure=>simp[intOf];omega
   obtain rfl:j=3:=(by omega);have hF:=HR.out;have HF:Hid (Grp wr b base (ownL M (l.take (k+1))) vs∧(∀ m∈ownL M (l.take (k+1)),m.2.length≤N+3*(k+1))∧BelowBut base b w wr):=yK (by
    rw[zgc HK.out];exact⟨hF.2.1,λ m hm=>by have:=hF.2.2.1 m hm;omega,hF.2.2.2.1⟩)
   clear hF HR;go_wp2_with fail
   go_roundw
   case rel=>exact⟨k+1,vs,by omega,by go_num,HF⟩
   case measure=>simp[intOf];omega
  obtain rfl:k=l.length:=by omega
  have hF:=HR.out;rw[Yd]at hF;have HF:=yK hF;clear hF HR;go_wp2
  go_end0
  exact⟨rfl,⟨vs,HF.out.1⟩,HF.out.2.1,HF.out.2.2⟩
end Go.Proofs.YtiinlplgloaanaaGreatDoor
