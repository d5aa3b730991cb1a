/- Plain maths: the reference's Border. -/
import Derived.Test.YtiinlplgloaanaaGreatDoorZzLayerTouches30
import Derived.Deep.SlicePairs
import Derived.PinnedBridge
import Derived.LaidMore
import Derived.Test.YtiinlplgloaanaaGreatDoorRows
import Derived.Lib.SmallJoins
set_option linter.all false
set_option maxRecDepth 100000
set_option maxHeartbeats 4000000
namespace Go.Proofs.YtiinlplgloaanaaGreatDoor
open Go.Proofs.Tryz Go.RowKit
attribute [local go_sem] Oper.semAt_some
def doneOf (W:World) (r:Nat):Nat:=match W.heap[r]? with|some (.mapIter _ _ seen _)=>seen.size|_=>0
theorem HasIter.done {W:World} {r b n:Nat} {done:List Nat} (h:HasIter W r b n done):doneOf W r=done.length:=by
 unfold HasIter at h;simp[doneOf,h]
theorem oh {W:World} {base:Nat} {v:Value} {es:List E} {e:E} (h:W.ownsRow base 61 3 v (es.length+1) (eCells es++eVals e)):OwnEd W base v (es++[e]):=by
 show W.ownsRow base _ 3 v (es++[e]).length (eCells (es++[e]));rw[Aj,yL];exact h
theorem Bj (b base f:Nat) (caps:Array Value) (M:List (E × List Q)) (vs:List Value) (p:List Q->Bool) (w:World) (hg:Grp w b base M vs) (hM:M.length<=1000000)
  (hf:∀ args w,(callFunc f args).run Tryz.prog w=.ok (.enter f args) w)
  (hcl:∀ (W:World) (i:Nat) (v:Value) (m:E × List Q),Bw w W->vs[i]?=some v->M[i]?=some m->Calls Tryz.prog f (#[v]++caps) W λ e W'=>e=.returned (.bool (p m.2))/\Bw W W') :
  Calls Tryz.prog 57 #[.map (some b),.func (.func f) #[] caps] w λ e w'=>∃ v es,e=.returned v/\HasEs w' v es/\es.Perm ((M.filter (λ m=>p m.2)).map (·.1))/\es.Pairwise (λ a b=>¬ ltE b a)/\Bw w w':=by
 have D6:=yK hcl;clear hcl;have T:=jV (P:=Tryz.prog) underlying130 hg.map;go_enter func57,ntmps57;go_wp2;clear T;have A:=HasIter.start w b (zipM M vs).length;have S:Bw w (w.alloc (.mapIter (some b) (zipM M vs).length #[] (zipM M vs).length)):=(yf _ w).alloc (ye _) _;have B0:=hg.below S;have E0:b<w.heap.size:=hg.map.lt;have s:=yK (jb hg.len);have E2:=yK hg.len;clear hg;revert A B0 S;generalize w.alloc (.mapIter (some b) (zipM M vs).length #[] (zipM M vs).length)=W0;intro A S B0;go_loopw [4] (λ v wr=>∃ (done:List Nat) (es:List E),Hid (HasIter wr w.heap.size b (zipM M vs).length done/\Grp wr b base M vs/\done.Nodup/\(∀ i∈done,i<M.length)/\OwnEd wr (w.heap.size+1) v es/\es=pickE M p done/\Bw w wr/\w.heap.size+1<=wr.heap.size)) (λ _ wr=>M.length-doneOf wr w.heap.size)
 case atStart=>exact⟨[],[],yK ⟨A,B0,by simp,by simp,kz _ _ _ 3,rfl,S,by have:=A.lt;omega⟩⟩
 case round =>
  obtain⟨done,es,HR⟩:=hrel;obtain⟨A,hg,A2,A8,hq,A4,hB,C7⟩:=HR.o;obtain⟨d,U,rfl⟩:=zf hq;have D3:done.length<=M.length:=nodup_lt_length _ _ A2 A8;have D9:es.length<=done.length:=by rw[A4];exact oR _ _ _
  have B8:=yK A.done;clear HR;have HG:=yK hg;have L:=hg.map;clear hg;have HQ:=yK hq;clear hq;have y:=yK A4;clear A4;have HD:=yK A2;clear A2;have A0:=yK A8;clear A8;go_wp2_with (first
   | (at_next;refine ox rfl _ rfl rfl A L ?_ ?_)
   | go_in)
  ·intro c;have G:∀ i,i<M.length->i∈done:=λ i hi=>c i (by rw[s.o];exact hi);have h1:done.Perm (List.range M.length):=(List.perm_ext_iff_of_nodup HD.o List.nodup_range).2 (λ i=>⟨λ h=>by simpa using A0.o i h,λ h=>G i (by simpa using h)⟩);have HP:Hid (es.Perm ((M.filter (λ m=>p m.2)).map (·.1))):=yK (by rw[y.o];exact jO M p h1);clear c G h1;by_cases he0:es=[]
   ·subst he0;have A5:=yK (λ W=>AnyF.slices_SortFunc_none { Tryz.sortE with } d U (.func (.func 108) #[] #[]) W);go_wp2_with fail;refine Calls.mono (show Calls Tryz.prog 107 _ _ _ from A5.o _) ?_;rintro e w2 ⟨rfl,rfl⟩;go_wp2_with fail;go_ret;refine⟨_,[],rfl,?_,HP.o,by simp,hB⟩;show HasEs w2 (.slice d ([]:List E).length U) [];rcases HQ.o.2 with⟨hn,_⟩|⟨g,cap,cur,hn,_,h2,h3,h4,_⟩
    ·exact .inl ⟨hn,rfl⟩
    rw[hn];refine .inr ⟨_,cap,rfl,h3,h4,?_,?_,?_,?_⟩
    ·exact(ya.1 h2).1
    all_goals(intro i q hq;simp at hq)
   obtain⟨g,rfl⟩:∃ g,d=some ⟨g,0,none⟩:=by
    rcases HQ.o.2 with⟨_,h0⟩|⟨g,cap,cur,hv,_⟩
    ·exact kV (yT.1 h0) he0
    simp only[yC]at hv;exact⟨g,hv.1⟩
   have HS:=yK (lQ (w.heap.size+1) g U es _ HQ.o C7 (by omega));clear he0;go_wp2_with fail;refine HS.o.mono ?_;rintro e w2 ⟨rfl,A1,C3,B2,B5,I,C9⟩;have D2:=hB.trans (C9.mono (YE _));have HF:Hid (HasEs w2 (.slice (some ⟨g,0,none⟩) es.length U) A1/\A1.Perm ((M.filter (λ m=>p m.2)).map (·.1))/\A1.Pairwise (λ a b=>¬ ltE b a)):=yK ⟨by rw[<- I];exact B5,C3.trans HP.o,B2⟩;clear C3 B2 B5 I HS;go_wp2_with fail;go_ret;exact⟨_,_,rfl,HF.o.1,HF.o.2.1,HF.o.2.2,D2⟩
  intro i x xv w1 hpe hnew hit1 hgr hsz1 hen;have hi:i<M.length:=by
   have:=(yc.1 hpe).1;rwa [s.o]at this
  obtain⟨m,hm,B7,A6⟩:=nz hpe;simp only at B7 A6;subst B7;clear hpe;have A9:=yK hm;have A3:Bw w w1:=(hB.grown hgr hB.size (λ j hj=>by cases hj;exact ye _));have C2:Grp w1 b base M vs:=by
   refine⟨L.grown hgr (by intro e;cases e;omega),HG.o.len,HG.o.ok,HG.o.keys,λ j u mm hu hmm=>?_,HG.o.apart⟩;have ho:=HG.o.each j u mm hu hmm;refine ho.kept hgr ?_;by_cases hv:u.ownBlock=none
   ·exact .inl hv
   refine .inr (λ e'=>?_);rcases ho.2 with⟨rfl,_⟩|⟨g,cap,cur,rfl,_,h2,_⟩
   ·cases e'
   simp only[Value.ownBlock,yo]at e';subst e';unfold HasIter at A;rw[h2]at A;cases A
  have C0:OwnEd w1 (w.heap.size+1) (.slice d es.length U) es:=HQ.o.kept hgr (by
   by_cases hv:(Value.slice d es.length U).ownBlock=none
   ·exact .inl hv
   exact .inr (λ e'=>by have:=(HQ.o.lt _ e').1;omega))
  have B1:w.heap.size+1<=w1.heap.size:=by omega
  have D5:=yK A6;clear hgr hsz1 L hm A6 hB A;have C1:=yK C2;clear C2;have B6:=yK C0;clear C0;have l:=yK hit1;clear hit1;obtain⟨⟨ex,V,Y⟩,row⟩:=m;unfold E.val at hen;go_wp2_with fail;have A7:(w1.alloc (.cells #[.int .i64 ex,.int .i64 V,.int .i64 Y] 61)).heap[w1.heap.size]?=some (.cells #[.int .i64 ex,.int .i64 V,.int .i64 Y] 61):=yd w1 _;have R:Bw w1 (w1.alloc (.cells #[.int .i64 ex,.int .i64 V,.int .i64 Y] 61)):=Below.alloc (yf _ w1) (ye _) _;refine(D6.o _ i xv (⟨ex,V,Y⟩,row) (A3.tm R) D5.o A9.o).mono ?_;rintro e w3 ⟨rfl,z⟩;have D:Bw w1 w3:=R.tm z;have C:=(z.block _ (ya.1 A7).1).trans A7;have N:=A3.tm D;have B:=yK (C1.o.below D);have O:=yK (l.o.below D);have X:=yK (qf B6.o D);have t:w.heap.size+1<=w3.heap.size:=yJ B1 D.size;have d0:w3.cell? ⟨w1.heap.size,0,none⟩=some (.int .i64 ex):=by simp[World.cell?,C]
  have d1:w3.cell? ⟨w1.heap.size,1,none⟩=some (.int .i64 V):=by simp[World.cell?,C]
  have d2:w3.cell? ⟨w1.heap.size,2,none⟩=some (.int .i64 Y):=by simp[World.cell?,C]
  clear A7 R z D C A3 C1 l B6 hen;have D8:done.length+1<=M.length:=by
   have:=nodup_lt_length M.length (done++[i]) (by
    rw[ko];exact⟨HD.o,by simp,λ a ha b hb e=>hnew (by rw[yU.1 hb]at e;rw[<- e];exact ha)⟩) (λ j hj=>by
    rcases yY.1 hj with h|h
    ·exact A0.o j h
    rw[yU.1 h];exact hi)
   simpa using this
  have Z:Hid ((done++[i]).Nodup/\∀ j∈done++[i],j<M.length):=yK ⟨by
    rw[ko];exact⟨HD.o,by simp,λ a ha b hb e=>hnew (by rw[yU.1 hb]at e;rw[<- e];exact ha)⟩,λ j hj=>by
    rcases yY.1 hj with h|h
    ·exact A0.o j h
    ·rw[yU.1 h];exact hi⟩
  have r:doneOf w3 w.heap.size=done.length+1:=by rw[O.o.done];simp
  have B4:=yK r;clear r
  cases hp:p row with
  | false =>
   have F:Hid (es=pickE M p (done++[i])):=yK (by rw[eD A9.o,y.o];simp[hp]);go_wp2_with fail
   go_roundw
   case rel=>exact⟨done++[i],es,yK ⟨O.o,B.o,Z.o.1,Z.o.2,X.o,F.o,N,t⟩⟩
   rw[B4.o,B8.o];omega
  | true =>
   have F:Hid (es++[⟨ex,V,Y⟩]=pickE M p (done++[i])):=yK (by rw[eD A9.o,y.o];simp[hp]);have D7:Hid (es.length+1<=maxLen):=yK (by simp only[maxLen];omega);have D4:Hid ((es.length+1)*24<=140737488355328):=yK (by omega);obtain⟨iE,C8,C5,D1,D0⟩:=info_parts infoE;go_wp2_with (first
    | (at_builtin;refine wpList_append_own _ rfl _ _ 32 rfl (w.heap.size+1) 61 iE _ 3 24 underlying32 C8 C5 D1 D0 rfl (by decide) (.slice d es.length U) es.length (eCells es) rfl (X.o.alloc _) ⟨w3.heap.size,0,none⟩ 1 1 (eVals ⟨ex,V,Y⟩) rfl rfl (nL ⟨ex,V,Y⟩) (fE _) D7.o D4.o (by rw[yp];omega) ?_;intro v' w4 hown' hgrow _;obtain⟨E1,E3,rfl⟩:=zf hown'))
   have H:w3.grownBy w4 (Value.slice d es.length U).ownBlock:=⟨hgrow.os,hgrow.tape,hgrow.output,yJ (by simp) hgrow.size,λ k hk hne=>(hgrow.block k (by simp;omega) hne).trans (Below.heap_alloc _ _ _ hk)⟩;have K:∀ k,(Value.slice d es.length U).ownBlock=some k->w.heap.size+1<=k:=λ k hk=>(X.o.lt k hk).1;have J:HasIter w4 w.heap.size b (zipM M vs).length (done++[i]):=O.o.grown H (λ e=>by have:=K _ e.symm;omega);have B3:Grp w4 b base M vs:=by
    refine⟨B.o.map.grown H (λ e=>by have:=K _ e.symm;omega),B.o.len,B.o.ok,B.o.keys,λ j u mm hu hmm=>?_,B.o.apart⟩;have ho:=B.o.each j u mm hu hmm;refine ho.kept H ?_;rcases ho.2 with⟨rfl,_⟩|⟨g,cap,cur,rfl,_,h2,_⟩
    ·exact .inl rfl
    rcases X.o.2 with⟨hn,_⟩|⟨g',cap',cur',hn,_,h2',_⟩
    ·exact .inr (by rw[hn];simp[Value.ownBlock])
    refine .inr (λ e'=>?_);rw[hn]at e';simp only[Value.ownBlock,yo]at e';subst e';rw[h2]at h2';simp only[yo,Yg]at h2';exact kV h2'.2.1 (by decide)
   have n:doneOf w4 w.heap.size=done.length+1:=(by rw[J.done];simp);have B9:=yK n;clear n;have C6:=yK B3;clear B3;have C4:=yK J;clear J
   go_roundw
   case rel=>exact⟨done++[i],es++[⟨ex,V,Y⟩],yK ⟨C4.o,C6.o,Z.o.1,Z.o.2,oh hown',F.o,N.grown H N.size (λ k hk=>by have:=K k hk;omega),yJ t H.size⟩⟩
   rw[B9.o,B8.o];omega
def checks:List (List Q)->Nat
 | []=>0
 | l :: ls=>if checkN l=0 then checks ls else checkN l
theorem mO {ls:List (List Q)} {k:Nat} {l:List Q} (h:ls[k]?=some l):checks (ls.drop k)=if checkN l=0 then checks (ls.drop (k+1))else checkN l:=by
 obtain⟨hk,rfl⟩:=yc.1 h;rw[YG hk,checks]
theorem fw {ls:List (List Q)} (h:checks ls=0):∀ l∈ls,checkN l=0:=by
 induction ls with
 | nil=>intro l hl;cases hl
 | cons a ls ih =>
  simp only[checks]at h;split at h
  ·rename_i h0;intro l hl;rcases Yd.1 hl with rfl|hl
   ·exact h0
   exact ih h l hl
  rename_i h0;exact kV h h0
theorem oZ (ls:List (List Q)) (v:Value) (w:World) (h:HasQQ w v ls) :
  Calls Tryz.prog 60 #[v] w λ e w'=>e=.returned (.int .i64 (checks ls))/\Bw w w':=by
 rcases h with⟨rfl,rfl⟩|⟨a,cap,vs,rfl,hlc,hcm,hva,hvl,heach⟩
 case inl =>
  go_enter func60,ntmps60;go_wp2;refine wp_loop_rounds 1 ?_;rw[rounds_succ];go_wp2;go_ret;exact⟨rfl,yf _ _⟩
 have P:ls.length<=maxLen:=yJ hlc hcm;simp only[maxLen]at P;have O:=yK hva;clear hva;have N:=yK heach;clear heach;have G:=yK hvl;clear hvl;go_enter func60,ntmps60;go_wp2;go_loopw [8] (λ u wr=>∃ k:Nat,k<=ls.length/\u=.int .i64 k/\Hid (checks ls=checks (ls.drop k)/\Bw w wr)) (λ u _=>ls.length-(intOf u).toNat)
 case atStart=>exact⟨0,by omega,rfl,yK ⟨rfl,yf _ _⟩⟩
 case round =>
  obtain⟨k,T,rfl,B⟩:=hrel;by_cases hlt:k<ls.length
  ·obtain⟨l,F⟩:∃ l,ls[k]?=some l:=⟨_,yb hlt⟩;obtain⟨u,I⟩:∃ u,vs[k]?=some u:=⟨_,yb (by rw[G.o];exact hlt)⟩;have L:=(O.o.below B.o.2).at_ k u I;have K:=(N.o k u l I F).below B.o.2;have HQ:=yK K;clear K;have J:=yK F;clear F I;have H:∃ p n c,u=.slice p n c:=by
    rcases HQ.o with⟨rfl,_⟩|⟨a,c,rfl,_⟩
    ·exact⟨_,_,_,rfl⟩
    exact⟨_,_,_,rfl⟩
   obtain⟨U,S,R,rfl⟩:=H;go_wp2_with fail;refine(check_any l _ wr HQ.o).mono ?_;rintro e w1 ⟨rfl,A⟩;have M:=yK (B.o.2.tm A);by_cases hc:checkN l=0
   ·have D:((checkN l:Int) != 0)=false:=by simpa using hc
    have C:Hid (checks ls=checks (ls.drop (k+1))):=yK (by rw[B.o.1,mO J.o,Yz hc]);clear hc L A;go_wp2_with fail
    go_roundw
    case rel=>exact⟨k+1,by omega,by go_num,yK ⟨C.o,M.o⟩⟩
    case measure=>simp[intOf];omega
   have D:((checkN l:Int) != 0)=true:=(by simpa using hc);have C:Hid (checks ls=checkN l):=yK (by rw[B.o.1,mO J.o,Yy hc]);clear hc L A;go_wp2_with fail;go_ret;exact⟨by rw[C.o];rfl,M.o⟩
  obtain rfl:k=ls.length:=by omega
  have C:Hid (checks ls=0):=yK (by rw[B.o.1,List.drop_of_length_le (ye _)];rfl);go_wp2;go_ret;exact⟨by rw[C.o];rfl,B.o.2⟩
def shapeM (S:List (Q × Nat)):List (Q × Value):=S.map λ p=>(p.1,Value.int .i64 p.2)
theorem zW (S:List (Q × Nat)):(shapeM S).map (·.1)=S.map (·.1):=by simp[shapeM,Function.comp_def]
theorem eg {S:List (Q × Nat)} {p:Q × Nat} (h:p∈S):(p.1,Value.int .i64 p.2)∈shapeM S:=yP.2 ⟨p,h,rfl⟩
def shapeAt (S:List (Q × Nat)) (q:Q):Nat:=((S.find? (λ p=>p.1=q)).map (·.2)).getD 0
theorem dG {S:List (Q × Nat)} {q:Q} (h:q∈S.map (·.1)):(q,shapeAt S q)∈S:=by
 obtain⟨p,C,rfl⟩:=yP.1 h;unfold shapeAt
 cases hf:S.find? (λ r=>decide (r.1=p.1))with
 | none=>have:=kR.1 hf p C;simp at this
 | some r =>
  have A:=List.find?_some hf;have B:=List.mem_of_find?_eq_some hf;simp at A;simp only[kr,Yv];rw[<- A];exact B
def jointP (S:List (Q × Nat)):List Q->Bool
 | [a,b]=>shapeAt S a != shapeAt S b
 | _=>false
theorem BE (S:List (Q × Nat)) (bs bx:Nat) (row:List Q) (v:Value) (W:World) (hv:HasQ W v row) (hS:HasM Q.val W bs (shapeM S)) (hx:Boxed W bx 139 (.map (some bs)))
  (hSk:(S.map (·.1)).Nodup) (hSi:∀ p∈S,inQ p.1) (hrow:∀ q∈row,q∈S.map (·.1)) :
  Calls Tryz.prog 61 #[v,.pointer (some ⟨bx,0,none⟩)] W λ e W'=>e=.returned (.bool (jointP S row))/\Bw W W':=by
 by_cases h2:row.length=2
 ·obtain⟨⟨J,K,B⟩,⟨C,D,F⟩,rfl⟩:∃ a b,row=[a,b]:=by
   match row,h2 with
   | [a,b],_=>exact⟨a,b,rfl⟩
  rcases hv with⟨_,h⟩|⟨ad,cap,rfl,hlc,hcm,hqs⟩
  ·cases h
  have A:∀ q∈S.map (·.1),∀ n,(Instr.lookup 139 (.map (some bs)) (Q.val q) false).run Tryz.prog (W.drewN n)=.ok (.int .i64 (shapeAt S q)) (W.drewN n):=λ q hq n=>by
   have:=zB encQ underlying139 (hS.drewN (n:=n)) (λ p I=>by
    simp only[shapeM,yP]at I;obtain⟨r,T,rfl⟩:=I;exact hSi r T) (by rw[zW];exact hSk) (eg (dG hq)) false
   simpa using this
  have L:=A ⟨J,K,B⟩ (hrow _ (by simp));have M:=A ⟨C,D,F⟩ (hrow _ (by simp));have I:jointP S [⟨J,K,B⟩,⟨C,D,F⟩]=(shapeAt S ⟨J,K,B⟩ != shapeAt S ⟨C,D,F⟩):=rfl;have HP:=yK I;clear I;have X:=hqs.at0 0 _ rfl;have O:=hqs.at1 0 _ rfl;have R:=hqs.at2 0 _ rfl;have V:=hqs.at0 1 _ rfl;have P:=hqs.at1 1 _ rfl;have U:=hqs.at2 1 _ rfl;have Y:=hx.cell;clear A hqs hS hx;revert L M HP;generalize shapeAt S ⟨J,K,B⟩=i;generalize shapeAt S ⟨C,D,F⟩=j;intro L M HP;simp[Addr.add]at X O R V P U;unfold Q.val at L M;go_enter func61,ntmps61;go_wp2;go_quiet (fail);go_wp2;go_ret;have e:((i:Int) != (j:Int))=(i != j):=by rw[YL];simp;omega
  exact⟨by rw[HP.o,<- e];rfl,below_drewN _ _ _⟩
 ·have H:jointP S row=false:=by
   unfold jointP;split
   ·exact kV rfl h2
   rfl
  have N:=yK H;clear H;rcases hv with⟨rfl,rfl⟩|⟨ad,cap,rfl,hlc,hcm,hqs⟩
  case inl =>
   go_enter func61,ntmps61;go_wp2;go_quiet (fail);go_wp2;go_ret;exact⟨rfl,below_drewN _ _ _⟩
  have G:¬ (row.length:Int)=2:=by omega
  have hd:decide ((row.length:Int)=2)=false:=yv G;have Z:((row.length:Int)==2)=false:=by rw[Bool.eq_false_iff];intro h;exact G (by simpa using h)
  clear G;clear h2;go_enter func61,ntmps61;go_wp2;go_quiet (fail);go_wp2;go_ret;exact⟨by rw[N.o];rfl,below_drewN _ _ _⟩
theorem iN (M:List (E × List Q)) (e:E) (q:Q):(addE M e q).length<=M.length+1:=by
 induction M with
 | nil=>simp[addE]
 | cons m M ih =>
  simp only[addE];split
  ·simp
  simp only[yA];omega
theorem Ae (M:List (E × List Q)) (q:Q):(addQ M q).length<=M.length+3:=by
 simp only[addQ,edgesQ,Yu,YC];have C:=iN M ⟨q.x,q.y,q.s⟩ q;have B:=iN (addE M ⟨q.x,q.y,q.s⟩ q) ⟨q.x,q.y,(q.s+3) % 4⟩ q;have A:=iN (addE (addE M ⟨q.x,q.y,q.s⟩ q) ⟨q.x,q.y,(q.s+3) % 4⟩ q) (sideE q) q;omega
theorem eh:∀ (l:List Q) (M:List (E × List Q)),(ownL M l).length<=M.length+3*l.length
 | [],M=>ye _
 | q :: l,M=>by
  have h1:=eh l (addQ M q);have h2:=Ae M q;simp only[ownL,Yu,yA]at h1 ⊢;omega
theorem fK {M:List (E × List Q)} {e:E} {q:Q} {P:Q->Prop} (h:∀ m∈M,∀ r∈m.2,P r) (hq:P q):∀ m∈addE M e q,∀ r∈m.2,P r:=by
 induction M with
 | nil=>intro m hm r hr;simp[addE]at hm;subst hm;simp at hr;subst hr;exact hq
 | cons a M ih =>
  intro m hm r hr;simp only[addE]at hm;split at hm
  ·rcases Yd.1 hm with rfl|hm
   ·rcases yY.1 hr with hr|hr
    ·exact h a (by simp) r hr
    rw[yU.1 hr];exact hq
   exact h m (by simp[hm]) r hr
  rcases Yd.1 hm with rfl|hm
  ·exact h m (by simp) r hr
  exact ih (λ m hm=>h m (by simp[hm])) m hm r hr
theorem mw {P:Q->Prop}:∀ {l:List Q} {M:List (E × List Q)},(∀ m∈M,∀ r∈m.2,P r)->(∀ q∈l,P q)->∀ m∈ownL M l,∀ r∈m.2,P r
 | [],M,h,_=>h
 | q :: l,M,h,hl=>by
  have hq:=hl q (by simp);refine mw (l:=l) ?_ (λ r hr=>hl r (by simp[hr]));simp only[addQ,edgesQ,Yu,YC];exact fK (fK (fK h hq) hq) hq
theorem lV (M:List (E × List Q)) (a b:List Q):ownL M (a++b)=ownL (ownL M a) b:=kt
def ql:Nat->List (List Q)->List (Q × Nat)
 | _,[]=>[]
 | i,l :: ls=>l.map (λ q=>(q,i))++ql (i+1) ls
theorem je:∀ (ls:List (List Q)) (i:Nat) (l:List Q),ql i (ls++[l])=ql i ls++l.map (λ q=>(q,i+ls.length))
 | [],i,l=>by simp[ql]
 | a :: ls,i,l=>by
  simp only[Yf,ql,je ls (i+1) l,kw,yA];rw[show i+1+ls.length=i+(ls.length+1)by omega]
theorem cD:∀ (ls:List (List Q)) (i:Nat),(ql i ls).map (·.1)=ls.flatten
 | [],_=>rfl
 | a :: ls,i=>by simp[ql,cD ls (i+1),Function.comp_def]
theorem take_snoc' {α:Type} {ls:List α} {k:Nat} {l:α} (h:ls[k]?=some l):ls.take (k+1)=ls.take k++[l]:=by
 obtain⟨hk,rfl⟩:=yc.1 h;exact Yr hk
theorem pn:∀ (ls:List (List Q)),(∀ l∈ls,l.length<=400)->ls.flatten.length<=400*ls.length
 | [],_=>by simp
 | a :: ls,h=>by
  have:=pn ls (λ l hl=>h l (by simp[hl]));have:=h a (by simp);simp only[List.flatten_cons,yL,yA];omega
theorem uW {ls:List (List Q)} {k:Nat} {l:List Q} (h:ls[k]?=some l) (hn:ls.flatten.Nodup):((ls.take k).flatten++l).Nodup:=by
 have e:ls=ls.take k++l :: ls.drop (k+1):=by
  obtain⟨A,rfl⟩:=yc.1 h;rw[<- YG A,List.take_append_drop]
 rw[e,List.flatten_append,List.flatten_cons,<- kw]at hn;exact(ko.1 hn).1
def qN (ls:List (List Q)):Nat:=if 60<ls.length then 5 else if checks ls≠0 then checks ls else if ls.flatten.Nodup then 0 else 6
def jointE (ls:List (List Q)):List E:=((ownL [] ls.flatten).filter (λ m=>jointP (ql 0 ls) m.2)).map (·.1)
theorem vn {α:Type} {A l:List α} {j:Nat} {q:α} (h:l[j]?=some q) (hn:(A++l).Nodup):q∉A++l.take j:=by
 obtain⟨C,rfl⟩:=yc.1 h;have e:l=l.take j++l[j] :: l.drop (j+1):=by rw[<- YG C,List.take_append_drop]
 have B:((A++l.take j)++l[j] :: l.drop (j+1)).Nodup:=by rw[kw,<- e];exact hn
 intro D;exact(ko.1 B).2.2 _ D _ List.mem_cons_self rfl
structure JI (w wr:World) (n0:Nat) (vs:List Value) (L:List Q) (S:List (Q × Nat)):Prop where
 grp:Grp wr n0 (n0+3) (ownL [] L) vs
 row:∀ m∈ownL [] L,m.2.length<=3*L.length
 map:HasM Q.val wr (n0+1) (shapeM S)
 box:Boxed wr (n0+1+1) 139 (.map (some (n0+1)))
 below:Bw w wr
 size:n0+3<=wr.heap.size
theorem JI.keep {w wr wr':World} {n0:Nat} {vs:List Value} {L:List Q} {S:List (Q × Nat)} (h:JI w wr n0 vs L S) (e:Bw wr wr'):JI w wr' n0 vs L S :=
 ⟨h.grp.below e,h.row,h.map.below e,(e.block _ h.box.lt).trans h.box,h.below.tm e,yJ h.size e.size⟩
theorem JI.put {w wr:World} {n0:Nat} {vs:List Value} {L:List Q} {S:List (Q × Nat)} (h:JI w wr n0 vs L S) (hn:w.heap.size<=n0) (S':List (Q × Nat)):JI w (putM Q.val wr (n0+1) (shapeM S')) n0 vs L S':=by
 have B:=dn (enc:=Q.val) wr (n0+1) (shapeM S');refine⟨⟨h.grp.map.grown B (by intro e;simp at e),h.grp.len,h.grp.ok,h.grp.keys,λ i v m hv hm=>?_,h.grp.apart⟩,h.row,HasM.put h.map.lt _,(zt wr (by omega) _).trans h.box,h.below.trans (bw wr (by omega) _),by rw[aj];exact h.size⟩;have A:=h.grp.each i v m hv hm;refine A.kept B ?_;by_cases hv0:v.ownBlock=none
 ·exact .inl hv0
 refine .inr (λ e=>?_);have:=(A.lt _ e).1;omega
theorem HasQ.own_lt {W:World} {v:Value} {l:List Q} (h:HasQ W v l) (hne:l≠[]):∀ k,v.ownBlock=some k->k<W.heap.size:=by
 intro k hk;rcases h with⟨rfl,_⟩|⟨a,cap,rfl,_,_,hq⟩
 ·cases hk
 simp only[Value.ownBlock,yo]at hk;subst hk;exact hq.lt hne
theorem vU {ls:List (List Q)} {k:Nat} (j:Nat) (l:List Q):(ql 0 (ls.take k)++(l.take j).map (λ q=>(q,k))).map (·.1)=(ls.take k).flatten++l.take j:=by
 rw[Yl,cD,kl];congr 1;exact Kc _
theorem pJ (ls:List (List Q)) (v:Value) (w:World) (h:HasQQ w v ls) (hlen:ls.length<=1000000000) :
  Calls Tryz.prog 20 #[v] w λ e w'=>∃ u es,e=.returned (.tuple #[u,.int .i64 (qN ls)])/\HasEs w' u es/\(qN ls≠0->es=[])/\(qN ls=0->es.Perm (jointE ls)/\es.Pairwise (λ a b=>¬ ltE b a))/\Below w.heap.size w w':=by
 have H:=yK h;have D3:∃ p c,v=.slice p ls.length c:=by
  rcases h with⟨rfl,rfl⟩|⟨a,cap,vs,rfl,_⟩
  ·exact⟨none,0,rfl⟩
  exact⟨some a,cap,rfl⟩
 obtain⟨vp,vc,rfl⟩:=D3;clear h;have D2:=@run_makeMap Tryz.prog;by_cases h60:60<ls.length
 case pos =>
  have hc:qN ls=5:=by rw[qN,Yz h60]
  have n:=yK hc;clear hc;go_enter func20,ntmps20;go_wp2;go_ret2;exact⟨.slice none 0 0,[],by rw[n.o];rfl,.inl ⟨rfl,rfl⟩,λ _=>rfl,λ h=>kV (n.o.symm.trans h) (by decide),yf _ _⟩
 have HK:=yK (oZ ls _ w H.o);go_enter func20,ntmps20;go_wp2_with fail;refine HK.o.mono ?_;rintro e w1 ⟨rfl,r⟩;clear HK;by_cases hc0:checks ls=0
 case neg =>
  have B2:((checks ls:Int) != 0)=true:=by simpa using hc0
  have n:Hid (qN ls=checks ls/\checks ls≠0):=yK ⟨by rw[qN,Yy h60,Yz hc0],hc0⟩;clear hc0;go_wp2_with fail;go_ret2;exact⟨.slice none 0 0,[],by rw[n.o.1];rfl,.inl ⟨rfl,rfl⟩,λ _=>rfl,λ h=>kV (n.o.1.symm.trans h) n.o.2,r⟩
 have B2:((checks ls:Int) != 0)=false:=by simpa using hc0
 have A3:=yK hc0;clear hc0;go_wp2_with fail;clear D2;obtain⟨K,N,L,g,F⟩:=gR w1 (.map #[] 0) (.map #[] 0) (.cells #[.map (some (w1.heap.size+1))] 139);revert K N L g F;generalize ((w1.alloc (.map #[] 0)).alloc (.map #[] 0)).alloc (.cells #[.map (some (w1.heap.size+1))] 139)=W0;intro K N L g F;have B:w.heap.size<=w1.heap.size:=r.size;have B9:Below w.heap.size w W0:=r.trans (g.mono B);clear g r;revert K N L F B;generalize w1.heap.size=n0;intro K N L F B;have D1:ls.length<=60:=by omega
 have A5:=yK (fw A3.o);have h0:Hid (JI w W0 n0 [] [] []):=yK ⟨⟨K,rfl,λ m O=>(by cases O),List.nodup_nil,λ i v m hv _=>(by simp at hv),λ i j u v _ hu _=>(by simp at hu)⟩,λ m O=>(by cases O),N,L,B9,by omega⟩;clear K N L B9 F;have C4:∀ k,k<=ls.length->(ls.take k).flatten.length<=24000:=λ k hk=>by
  have:=pn (ls.take k) (λ l hl=>(qj (A5.o l (Yx hl))).2.2);have h2:(ls.take k).length<=60:=by rw[Ye];omega
  omega
 have C6:=yK C4;clear C4;have A0:Hid (¬ 60<ls.length):=yK h60;clear h60 B2;have z:Hid (∀ q∈ls.flatten,inQ q):=yK λ q hq=>by
  obtain⟨l,hl,hq⟩:=ku.1 hq;exact(qj (A5.o l hl)).1.1 q hq
 go_loopw [25] (λ u wr=>∃ (k:Nat) (vs:List Value),k<=ls.length/\u=.int .i64 k/\Hid (JI w wr n0 vs (ls.take k).flatten (ql 0 (ls.take k))/\(ls.take k).flatten.Nodup)) (λ u _=>ls.length-(intOf u).toNat)
 case atStart=>exact⟨0,[],by omega,rfl,yK ⟨h0.o,List.nodup_nil⟩⟩
 case round =>
  obtain⟨k,vs,hk,rfl,HR⟩:=hrel;by_cases hlt:k<ls.length
  ·obtain⟨a,qs,rfl,C2,C5,V⟩:∃ (a:Addr) (qs:List Value),vp=some a/\VsAt w a qs/\qs.length=ls.length/\∀ (i:Nat) (u:Value) (l:List Q),qs[i]?=some u->ls[i]?=some l->HasQ w u l:=by
    rcases H.o with⟨_,h⟩|⟨a,cap,qs,J,_,_,h4,h5,h6⟩
    ·rw[h]at hlt;cases hlt
    simp only[yC]at J;exact⟨a,qs,J.1,h4,h5,h6⟩
   obtain⟨l,hl⟩:∃ l,ls[k]?=some l:=⟨_,yb hlt⟩;obtain⟨u,hu⟩:∃ u,qs[k]?=some u:=⟨_,yb (by rw[C5];exact hlt)⟩;have c0:=(C2.below HR.o.1.below).at_ k u hu;have HQ:=yK (V k u l hu hl);have HL:=yK hl;have U:=yK (qj (A5.o l (yg hl)));clear C2 C5 V hl hu;have D7:l.length<=400:=U.o.2.2;have D6:∃ p c,u=.slice p l.length c:=by
    rcases HQ.o with⟨rfl,rfl⟩|⟨a,c,rfl,_⟩
    ·exact⟨_,_,rfl⟩
    exact⟨_,_,rfl⟩
   obtain⟨up,uc,rfl⟩:=D6;go_wp2_with fail;clear c0;go_loopw [32] (λ u wr=>∃ j:Nat,j<=l.length/\u=.int .i64 j/\Hid (JI w wr n0 vs (ls.take k).flatten (ql 0 (ls.take k)++(l.take j).map (λ q=>(q,k)))/\((ls.take k).flatten++l.take j).Nodup)) (λ u _=>l.length-(intOf u).toNat)
   case atStart=>exact⟨0,by omega,rfl,yK ⟨by simpa using HR.o.1,by simpa using HR.o.2⟩⟩
   obtain⟨j,hj,rfl,HI⟩:=hrel;by_cases hlj:j<l.length
   ·obtain⟨q,Y⟩:∃ q,l[j]?=some q:=⟨_,yb hlj⟩;obtain⟨a',rfl,D0⟩:∃ a',up=some a'/\QsAt w a' l:=by
     rcases HQ.o with⟨_,h⟩|⟨a',c,J,_,_,h2⟩
     ·rw[h]at hlj;cases hlj
     simp only[yC]at J;exact⟨a',J.1,h2⟩
    have f:=D0.below HI.o.1.below;have c0:=f.at0 j q Y;have c1:=f.at1 j q Y;have c2:=f.at2 j q Y;have HK:=yK Y;clear Y f D0;have A9:inQ q:=U.o.1.1 q (yg HK.o);have C0:=yK A9;clear A9;have d:Hid (w.heap.size<=n0):=yK B;obtain⟨x,y,s⟩:=q;go_upto_region 13 with(fail);have A7:Below wr.heap.size wr (wr.alloc (.cells #[.int .i64 x,.int .i64 y,.int .i64 s] 56)):=Below.alloc (yf _ wr) (ye _) _;have D:=HI.o.1.keep A7;have G:(wr.alloc (.cells #[.int .i64 x,.int .i64 y,.int .i64 s] 56)).heap[wr.heap.size]?=some (.cells #[.int .i64 x,.int .i64 y,.int .i64 s] 56):=yd wr _;have C8:=yK HI.o.2;clear A7 HI c0 c1 c2;revert D G;generalize wr.alloc (.cells #[.int .i64 x,.int .i64 y,.int .i64 s] 56)=W5;generalize wr.heap.size=rb;intro D G;have d0:W5.cell? ⟨rb,0,none⟩=some (.int .i64 x):=(by simp[World.cell?,G]);have d1:W5.cell? ⟨rb,1,none⟩=some (.int .i64 y):=(by simp[World.cell?,G]);have d2:W5.cell? ⟨rb,2,none⟩=some (.int .i64 s):=(by simp[World.cell?,G]);have d3:=D.box.cell;have A:(ql 0 (ls.take k)++(l.take j).map (λ q=>(q,k))).map (·.1)=(ls.take k).flatten++l.take j:=vU j l;have Z:∀ p∈shapeM (ql 0 (ls.take k)++(l.take j).map (λ q=>(q,k))),inQ p.1:=λ p hp=>by
     have J:p.1∈(shapeM (ql 0 (ls.take k)++(l.take j).map (λ q=>(q,k)))).map (·.1):=yP.2 ⟨p,hp,rfl⟩;rw[zW,A]at J;rcases yY.1 J with J|J
     ·refine z.o _ ?_;obtain⟨m,O,h2⟩:=ku.1 J;exact ku.2 ⟨m,Yx O,h2⟩
     exact U.o.1.1 _ (Yx J)
    have A6:((shapeM (ql 0 (ls.take k)++(l.take j).map (λ q=>(q,k)))).map (·.1)).Nodup:=(by rw[zW,A];exact C8.o);by_cases hmem:(⟨x,y,s⟩:Q)∈(ls.take k).flatten++l.take j
    ·have C:=zB encQ underlying139 D.map Z A6 (eg (dG (by rw[A];exact hmem))) true;unfold Q.val at C;simp only[ite_true]at C;have A8:Hid (qN ls=6):=yK (by
      have J:¬ ls.flatten.Nodup:=λ hn=>by
       have h2:=uW HL.o hn;exact vn HK.o h2 hmem
      rw[qN,Yy A0.o,Yy (λ h=>h A3.o),Yy J])
     have A4:=yK D.below;clear hmem Z A6 A D G;go_wp2_with fail;go_ret2;exact⟨.slice none 0 0,[],by rw[A8.o];rfl,.inl ⟨rfl,rfl⟩,λ _=>rfl,λ h=>kV (A8.o.symm.trans h) (by decide),A4.o⟩
    have C:=zN encQ underlying139 (zeroValue3 W5) D.map Z C0.o (λ p hp e=>hmem (by rw[<- A,<- zW,<- e];exact yP.2 ⟨p,hp,rfl⟩)) true;have t:=zY encQ underlying139 D.map Z C0.o (λ p hp e=>hmem (by rw[<- A,<- zW,<- e];exact yP.2 ⟨p,hp,rfl⟩)) (.int .i64 k);have C9:shapeM (ql 0 (ls.take k)++(l.take j).map (λ q=>(q,k)))++[(⟨x,y,s⟩,.int .i64 k)]=shapeM (ql 0 (ls.take k)++(l.take (j+1)).map (λ q=>(q,k))):=by
     rw[take_snoc' HK.o];simp[shapeM]
    rw[C9]at t;have A2:=yK (D.put B (ql 0 (ls.take k)++(l.take (j+1)).map (λ q=>(q,k))));revert t A2;generalize putM Q.val W5 (n0+1) (shapeM (ql 0 (ls.take k)++(l.take (j+1)).map (λ q=>(q,k))))=W6;intro t A2;unfold Q.val at C t;have B4:Hid ((ls.take k).flatten++l.take (j+1)).Nodup:=yK (by
     rw[take_snoc' HK.o,<- kw];exact ko.2 ⟨C8.o,by simp,λ a ha b hb e=>hmem (by rw[<- yU.1 hb,<- e];exact ha)⟩)
    simp only[ite_true]at C;clear hmem Z A6 A D G C9 B;go_wp2_with fail;have B:=d.o
    go_roundw
    case rel=>exact⟨j+1,by omega,by go_num,yK ⟨A2.o,B4.o⟩⟩
    case measure=>simp[intOf];omega
   obtain rfl:j=l.length:=(by omega);have hF:=HI.o;rw[Yc]at hF;have hS:ql 0 (ls.take k)++l.map (λ q=>(q,k))=ql 0 (ls.take (k+1)):=by
    rw[take_snoc' HL.o,je,Ye,Nat.min_eq_left (by omega),YM]
   have B6:(ls.take k).flatten++l=(ls.take (k+1)).flatten:=(by rw[take_snoc' HL.o];simp);rw[hS]at hF;have I:=yK hF;clear hF HI hS;have B8:=yK B6;clear B6;have A1:=C6.o k (by omega);have C3:=yK (ic n0 (n0+3) (3*(ls.take k).flatten.length) (ownL [] (ls.take k).flatten) vs l (.slice up l.length uc) wr I.o.1.grp I.o.1.size (HQ.o.below I.o.1.below)
    (λ b hb=>by have:=HQ.o.own_lt U.o.2.1 b hb;exact⟨by omega,by omega⟩) U.o.1.1 I.o.1.row (by omega))
   have d:Hid (w.heap.size<=n0):=yK B;clear A1 B;go_wp2_with fail;refine C3.o.mono ?_;rintro e w5 ⟨rfl,⟨C7,C1⟩,T,S⟩;have B:=d.o;have D5:Hid (JI w w5 n0 C7 (ls.take (k+1)).flatten (ql 0 (ls.take (k+1)))):=yK (by
    rw[<- B8.o];have hJ:=I.o.1;refine⟨by rw[lV];exact C1,?_,(S.block _ (by omega) (by omega)).trans hJ.map,(S.block _ (by omega) (by omega)).trans hJ.box,hJ.below.trans (S.below (by omega) B),yJ hJ.size S.size⟩;rw[lV];intro m O;have:=T m O;rw[yL];omega)
   clear C1 T S;go_wp2_with fail
   go_roundw
   case rel=>exact⟨k+1,C7,by omega,by go_num,yK ⟨D5.o,by rw[<- B8.o];exact I.o.2⟩⟩
   case measure=>simp[intOf];omega
  obtain rfl:k=ls.length:=by omega
  have hF:=HR.o;rw[Yc]at hF;have I:=yK hF;clear hF HR;have B3:=C6.o ls.length (ye _);rw[Yc]at B3;have B5:(ownL [] ls.flatten).length<=1000000:=by
   have:=eh ls.flatten [];simp only[yN]at this;omega
  have B1:=yK (Bj n0 (n0+3) 61 #[.pointer (some ⟨n0+1+1,0,none⟩)] (ownL [] ls.flatten) vs (jointP (ql 0 ls)) wr I.o.1.grp B5
   (λ args w=>by kernel_rfl)
   (λ W i v m hB hv O=>BE (ql 0 ls) (n0+1) (n0+1+1) m.2 v W ((I.o.1.grp.each i v m hv O).has.below hB) (I.o.1.map.below hB) ((hB.block _ I.o.1.box.lt).trans I.o.1.box)
    (by rw[cD];exact I.o.2) (λ p hp=>z.o _ (by rw[<- cD ls 0];exact yP.2 ⟨p,hp,rfl⟩))
    (λ q hq=>by rw[cD];exact mw (P:=λ q=>q∈ls.flatten) (M:=[]) (λ m O=>by cases O) (λ q hq=>hq) m (yg O) q hq)))
  have A4:=yK I.o.1.below;have n:Hid (qN ls=0):=yK (by rw[qN,Yy A0.o,Yy (λ h=>h A3.o),Yz I.o.2]);clear B5 B3;go_wp2_with fail;refine B1.o.mono ?_;rintro e w5 ⟨u,es,rfl,B7,X,R,B0⟩;have HE:=yK B7;clear B7;have HP:=yK X;clear X;have HS:=yK R;clear R;have D4:=yK (A4.o.tm B0);clear B0;go_wp2_with fail;go_ret2;exact⟨u,es,by rw[n.o];rfl,HE.o,λ h=>kV n.o h,λ _=>⟨HP.o,HS.o⟩,D4.o⟩
theorem Cp:∀ m:Fin 16,∀ n:Fin 16,nowhere m.val n.val=!(decide (∀ s:Fin 4,m.val.testBit s.val=true->n.val.testBit s.val=true)):=by decide +kernel
theorem qT {m n:Nat} (hm:m<16) (hn:n<16):nowhere m n=false↔∀ s,s<4->m.testBit s=true->n.testBit s=true:=by
 have:=Cp ⟨m,hm⟩ ⟨n,hn⟩;simp only at this;rw[this];simp only[Bool.not_eq_false',yS];exact⟨λ h s hs=>h ⟨s,hs⟩,λ h s=>h s.val s.isLt⟩
theorem Cd {g h:Grid} (hg:okG g) (hh:okG h):inG g h=true↔∀ q,memG g q->memG h q:=by
 rw[inG,YH];constructor
 ·intro H q hq;have F:=aE hq;obtain⟨D,G,I,J,K,L,A⟩:=hq;have:=H _ F;simp only[ke]at this;exact⟨D,G,I,J,K,L,(qT (hg.1 _) (hh.1 _)).1 this q.s.toNat (by omega) A⟩
 intro H i hi;simp only[ke];refine(qT (hg.1 _) (hh.1 _)).2 (λ s hs hb=>?_);have B:=(qw.1 hi).1;have M:memG g ⟨(i % 16:Nat),(i / 16:Nat),(s:Nat)⟩:=by
  refine⟨by simp only;omega,by simp only;omega,by simp only;omega,by simp only;omega,by simp only;omega,by simp only;omega,?_⟩;have e:((16:Int)*((i / 16:Nat):Int)+((i % 16:Nat):Int)).toNat=i:=by omega
  have C:((s:Nat):Int).toNat=s:=by omega
  simp only[e,C];exact hb
 have A:=(H _ M).2.2.2.2.2.2;have e:((16:Int)*((i / 16:Nat):Int)+((i % 16:Nat):Int)).toNat=i:=by omega
 have C:((s:Nat):Int).toNat=s:=by omega
 simp only[e,C]at A;exact A
theorem bV {l:List Q} (h:okQ l) (hl:l≠[]) (w:Way):listG (imgG (layG l) w)=imgW l w:=(jg h hl w.1 w.2).1
theorem CU {g:Grid} (ok:okG g):RepG g (listG g) :=
 ⟨ok,λ q hq=>(cZ (aQ.1 hq)).okS,0,0,λ q=>by rw[bD,aQ];exact⟨id,id⟩⟩
theorem qq {l:List Q} (hl:l.Nodup) (ol:∀ q∈l,okS q) {w:Way} (hw:w.2<4):normL (imgW l w)=imgW l w:=by
 rw[<- uU];unfold imgW;rw[xO hl ol];obtain⟨b,n⟩:=w;simp only at hw;simp only[compW,Yn,if_false,Bool.false_bne,YM,Nat.mod_eq_of_lt hw]
theorem iM {l:List Q} (h:okQ l) (hl:l≠[]) {w:Way} (hw:w.2<4):(widthG (imgG (layG l) w):Int)=widthL (imgW l w)/\(heightG (imgG (layG l) w):Int)=heightL (imgW l w):=by
 have A:=aq (qZ h.1) w;have B:=CU A;rw[bV h hl]at B;have:=B.width (jS hl);rwa [qq (Srt.nodup h.2) (λ q hq=>(h.1 q hq).okS) hw]at this
theorem ms {l:List Q} (h:okQ l) (hl:l≠[]) {w:Way} (hw:w.2<4) {x y:Nat} (hx:x+widthG (imgG (layG l) w)<=16) (hy:y+heightG (imgG (layG l) w)<=16):∀ i∈cells (imgG (layG l) w),i % 16+x<16/\i / 16+y<16:=by
 have D:=iM h hl hw;refine dj (aq (qZ h.1) w) (W:=widthL (imgW l w)) (H:=heightL (imgW l w)) (λ q hq=>?_) (by omega) (by omega);have A:q∈imgW l w:=by rw[<- bV h hl];exact aQ.2 hq
 have C:=bo (·.x) A;have B:=bo (·.y) A;unfold widthL heightL;omega
theorem rW {l g:List Q} (h:okQ l) (hl:l≠[]) (hg:okQ g) {w:Way} (hw:w.2<4) {x y:Nat} (hx:x+widthG (imgG (layG l) w)<=16) (hy:y+heightG (imgG (layG l) w)<=16) :
  inG (atG (imgG (layG l) w) x y) (layG g)=subL ((imgW l w).map (sh x y)) g:=by
 have B:=ms h hl hw hx hy;have A:=lw (aq (qZ h.1) w) B;rw[YL,Cd A (qZ hg.1),subL,YH];have C:∀ q,memG (atG (imgG (layG l) w) x y) q↔q∈(imgW l w).map (sh x y):=λ q=>by rw[<- aQ,lW B,bV h hl]
 constructor
 ·intro H q hq;simpa using(dA hg.1 q).1 (H q ((C q).2 hq))
 ·intro H q hq;exact(dA hg.1 q).2 (by simpa using H q ((C q).1 hq))
theorem dw {α β:Type} [DecidableEq β] (f:α->β) (a:α):∀ (l:List α) (seen:List β),freshL f (l++[a]) seen=freshL f l seen++(if f a∈seen++l.map f then []else [a])
 | [],seen=>by simp[freshL]
 | b :: l,seen=>by
  simp only[Yf,freshL];split
  ·rename_i hb;rw[dw f a l seen];have:(f a∈seen++l.map f)↔(f a∈seen++(b :: l).map f):=by
    simp only[yM,yY,Yd];constructor
    ·rintro (h|h)
     ·exact .inl h
     exact .inr (.inr h)
    rintro (h|h|h)
    ·exact .inl h
    ·exact .inl (h▸hb)
    exact .inr h
   simp only[this]
  rw[dw f a l];simp[kw]
def atW (l g:List Q) (w:Way):List Plc:=(posL (imgW l w) g).map λ p=>⟨w.1,w.2,p.1,p.2⟩
def partW (l g:List Q) (k:Nat):List Plc:=(freshL (imgW l) ((List.range k).map wayN) []).flatMap (atW l g)
theorem xP (l g:List Q):partW l g 8=placesL l g:=by
 unfold partW placesL freshW atW;rw[oV]
theorem Cx {l g:List Q} {k:Nat} (h:∃ i,i<k/\imgW l (wayN i)=imgW l (wayN k)):partW l g (k+1)=partW l g k:=by
 unfold partW;rw[Yk,Yl,yM,Yh,dw,Yz]
 ·simp
 obtain⟨i,A,e⟩:=h;simp only[Yj,yP,kO];exact⟨_,⟨i,A,rfl⟩,e⟩
theorem tK {l g:List Q} {k:Nat} (h:¬ ∃ i,i<k/\imgW l (wayN i)=imgW l (wayN k)):partW l g (k+1)=partW l g k++atW l g (wayN k):=by
 unfold partW;rw[Yk,Yl,yM,Yh,dw,Yy]
 ·simp
 simp only[Yj,yP,kO];rintro⟨_,⟨i,A,rfl⟩,e⟩;exact h ⟨i,A,e⟩
def rowP (l g:List Q) (w:Way) (y i:Nat):List Plc:=((List.range i).filter (λ (x:Nat)=>subL ((imgW l w).map (sh (x:Int) (y:Int))) g)).map λ x=>⟨w.1,w.2,x,y⟩
def rowsP (l g:List Q) (w:Way) (W j:Nat):List Plc:=(List.range j).flatMap λ y=>rowP l g w y W
theorem mJ (l g:List Q) (w:Way) (y:Nat):rowP l g w y 0=[]:=rfl
theorem rowP_step (l g:List Q) (w:Way) (y i:Nat):rowP l g w y (i+1)=rowP l g w y i++(if subL ((imgW l w).map (sh (i:Int) (y:Int))) g=true then [⟨w.1,w.2,i,y⟩]else []):=by
 unfold rowP;rw[Yk,kf,Yl];congr 1;simp only[kB,kZ];split <;> rfl
theorem pz (l g:List Q) (w:Way) (W j:Nat):rowsP l g w W (j+1)=rowsP l g w W j++rowP l g w j W:=by
 unfold rowsP;rw[Yk,List.flatMap_append];simp
theorem tC (l g:List Q) (w:Way):rowsP l g w (16-(widthL (imgW l w)).toNat+1) (16-(heightL (imgW l w)).toNat+1)=atW l g w:=by
 unfold rowsP rowP atW posL;rw[List.map_flatMap];congr 1
 funext y
 rw[kl];rfl
def pVals (p:Plc):List Value:=[.bool p.m,.int .i64 p.t,.int .i64 p.x,.int .i64 p.y]
def pCells (l:List Plc):List Value:=l.flatMap pVals
theorem nJ:∀ {l:List Plc} {i:Nat} {q:Plc},l[i]?=some q->∀ j,j<4->(pCells l)[i*4+j]?=(pVals q)[j]?
 | a :: l,0,q,h,j,hj=>by
  simp at h;subst h;simp only[pCells,YT,Nat.zero_mul,YM];rw[yX (by simp[pVals];omega)]
 | a :: l,i+1,q,h,j,hj=>by
  have:=nJ (l:=l) (i:=i) (by simpa using h) j hj;simp only[pCells,YT]at this ⊢;rw[yW (by simp[pVals];omega)];have e:(i+1)*4+j-(pVals a).length=i*4+j:=by simp[pVals];omega
  rw[e];exact this
theorem ui (l:List Plc) (q:Plc):pCells (l++[q])=pCells l++pVals q:=by simp[pCells]
abbrev OwnP (W:World) (base:Nat) (v:Value) (l:List Plc):Prop:=W.ownsRow base 45 4 v l.length (pCells l)
theorem rc {W:World} {base:Nat} {v:Value} {es:List Plc} {e:Plc} (h:W.ownsRow base 45 4 v (es.length+1) (pCells es++pVals e)):OwnP W base v (es++[e]):=by
 show W.ownsRow base _ 4 v (es++[e]).length (pCells (es++[e]));rw[ui,yL];exact h
structure PsAt (W:World) (a:Addr) (l:List Plc):Prop where
 lt:a.block<W.heap.size
 at_:∀ (i:Nat) (q:Plc),l[i]?=some q->∀ (j:Nat) (u:Value),(pVals q)[j]?=some u->W.cell? (a.add (i*4+j))=some u
theorem PsAt.move {W W':World} {a:Addr} {l:List Plc} (h:PsAt W a l) (e:W'.heap[a.block]?=W.heap[a.block]?):PsAt W' a l:=by
 refine⟨?_,λ i q hq j u hu=>?_⟩
 ·have:=h.lt;have A:W.heap[a.block]?=some W.heap[a.block]:=yD this;exact(ya.1 (e.trans A)).1
 exact(cell_of_block (x:=a.add (i*4+j)) (by rw[block_add,e])).trans (h.at_ i q hq j u hu)
theorem PsAt.below {W W':World} {a:Addr} {l:List Plc} (h:PsAt W a l) (e:Bw W W'):PsAt W' a l:=h.move (e.block _ h.lt)
def HasP (W:World) (v:Value) (l:List Plc):Prop :=
 (v=.slice none 0 0/\l=[])\/∃ (a:Addr) (cap:Nat),v=.slice (some a) l.length cap/\l.length<=cap/\cap<=maxLen/\PsAt W a l
theorem HasP.below {W W':World} {v:Value} {l:List Plc} (h:HasP W v l) (e:Bw W W'):HasP W' v l:=by
 rcases h with h|⟨a,cap,h1,h2,h3,h4⟩
 ·exact .inl h
 exact .inr ⟨a,cap,h1,h2,h3,h4.below e⟩
theorem HasP.move {W W':World} {v:Value} {l:List Plc} (h:HasP W v l) (e:∀ k,v.ownBlock=some k->W'.heap[k]?=W.heap[k]?):HasP W' v l:=by
 rcases h with h|⟨a,cap,h1,h2,h3,h4⟩
 ·exact .inl h
 exact .inr ⟨a,cap,h1,h2,h3,h4.move (e _ (by rw[h1];rfl))⟩
theorem OwnP.has {W:World} {base:Nat} {v:Value} {l:List Plc} (h:OwnP W base v l):HasP W v l:=by
 rcases h.2 with⟨rfl,B⟩|⟨g,cap,cur,rfl,h1,h2,h3,h4,h5⟩
 ·exact .inl ⟨rfl,yT.1 B⟩
 refine .inr ⟨_,cap,rfl,h3,h4,(h.lt g rfl).2,λ i q hq j u hu=>?_⟩;have A:j<4:=by have:=(yc.1 hu).1;simpa[pVals]using this
 have C:=World.ownsRow.cells h (g:=g) rfl;refine C _ _ ?_;rw[nJ hq j A];exact hu
theorem infoP:(Tryz.prog.info? 45).map (λ i=>(i.zero,i.size,i.bytes))=some (some (.agg #[.bool false,.int .i64 0,.int .i64 0,.int .i64 0]),4,32):=by kernel_rfl
theorem rR {W:World} {T:TypeId} (q:Plc):∀ (j:Nat) (u:Value),(pVals q)[j]?=some u->(W.alloc (.cells #[.bool q.m,.int .i64 q.t,.int .i64 q.x,.int .i64 q.y] T)).cell? ((⟨W.heap.size,0,none⟩:Addr).add j)=some u:=by
 intro j u h;rw[qW];exact aI W (pVals q) T j u h
theorem tU (q:Plc):∀ u∈pVals q,u.oneCell'=true:=by
 intro u hu;simp[pVals]at hu;rcases hu with rfl|rfl|rfl|rfl <;> rfl
def placesC (l g:List Q):List Plc × Nat:=if checks [l,g]≠0 then([],checks [l,g])else(placesL l g,0)
theorem AZ {W:World} {u v:Value} {l g:List Q} (hu:HasQ W u l) (hv:HasQ W v g):HasQQ (W.alloc (.cells #[u,v] 22)) (.slice (some ⟨W.heap.size,0,none⟩) 2 2) [l,g]:=by
 have A:Bw W (W.alloc (.cells #[u,v] 22)):=(yf _ W).alloc (ye _) _;refine .inr ⟨_,2,[u,v],rfl,ye _,by decide,⟨by simp,λ i x hx=>?_⟩,rfl,λ i x m hx hm=>?_⟩
 ·rw[qW];exact aI W [u,v] _ i x hx
 match i,hx,hm with
 | 0,hx,hm=>simp at hx hm;subst hx;subst hm;exact hu.below A
 | 1,hx,hm=>simp at hx hm;subst hx;subst hm;exact hv.below A
 | i+2,hx,hm=>simp at hx
theorem results_cell_tmp {fn:Func} {p q:Tmp} {T:TypeId} (h:fn.results=#[.cell p T,.tmp q]) (hT:∀ w,(isAgg T).run Tryz.prog w=.ok false w) (tmps:Array Value) (w:World) (b:Nat) (v z:Value) (hp:tmps.getD p undef=.pointer (some ⟨b,0,none⟩)) (hb:Boxed w b T v)
  (hq:tmps.getD q undef=z):(results fn tmps).run Tryz.prog w=.ok (.tuple #[v,z]) w:=by
 have A:tmps[p]?.getD undef=.pointer (some ⟨b,0,none⟩):=by simpa using hp
 have B:tmps[q]?.getD undef=z:=by simpa using hq
 have C:=iv hT w b v hb;simp[results,h,A,B,asAddr,C]
theorem HasQ.slice {W:World} {v:Value} {l:List Q} (h:HasQ W v l):∃ p c,v=.slice p l.length c:=by
 rcases h with⟨rfl,rfl⟩|⟨a,c,rfl,_⟩
 ·exact⟨_,_,rfl⟩
 exact⟨_,_,rfl⟩
def plI (w:World) (m0:Nat) (l g:List Q) (bs:List Nat) (k:Nat) (W:World):Prop :=
 ∃ (L:List Grid) (v:Value),HasM gridV W m0 (setM L)/\(L.Nodup/\∀ x,x∈L↔∃ i,i<k/\imgG (layG l) (wayN i)=x)/\HasG W (m0+1) (layG g)/\Boxed W (m0+1+1) 153 (.map (some m0)) /\
  Boxed W w.heap.size 75 v/\OwnP W (m0+3) v (partW l g k)/\((partW l g k).length<=289*k/\∀ c∈bs,v.ownBlock≠some c)/\Bw w W
theorem gq {w:World} {m0 B:Nat} (h:m0+3<=B) (hw:w.heap.size<m0) (l g:List Q) (bs:List Nat) (k:Nat):Stab B (plI w m0 l g bs k):=by
 rintro W W' ⟨L,v,h1,h2,h3,h4,h5,h6,h7,h8⟩ e;exact⟨L,v,Stab.hasM (B:=B) (by omega) _ _ W W' h1 e,h2,Stab.hasG B _ _ W W' h3 e,Stab.boxed B _ _ _ W W' h4 e,Stab.boxed B _ _ _ W W' h5 e,Stab.owns B _ _ _ _ _ _ W W' h6 e,h7,Stab.below (B:=B) (by omega) (ye _) W W' h8 e⟩
structure PB (w W2 wr:World) (B m0 tb ib b:Nat) (o:Obj) (g:List Q) (L:List Grid) (I:Grid) (v:Value) (pl:List Plc):Prop where
 map:HasM gridV wr m0 (setM L)
 ground:HasG wr (m0+1) (layG g)
 box:Boxed wr (m0+1+1) 153 (.map (some m0))
 res:Boxed wr w.heap.size 75 v
 own:OwnP wr (m0+3) v pl
 img:HasG wr ib I
 obj:wr.heap[b]?=some o
 keeps:KeepsFrom B W2 wr
 below:Bw w wr
 apart:∀ k,v.ownBlock=some k->k≠b/\k≠tb/\k≠ib
 size:m0+3<=tb/\m0+3<=ib/\m0+3<=b/\b≠tb/\b≠ib/\tb≠ib/\w.heap.size<m0
theorem Cu {l:List Q} (h:okQ l) (hl:l≠[]) (k:Nat):(∃ i,i<k/\imgW l (wayN i)=imgW l (wayN k))↔∃ i,i<k/\imgG (layG l) (wayN i)=imgG (layG l) (wayN k):=by
 constructor
 ·rintro⟨i,A,e⟩;refine⟨i,A,xN (aq (qZ h.1) _) (aq (qZ h.1) _) ?_⟩;rw[bV h hl,bV h hl,e]
 rintro⟨i,A,e⟩;exact⟨i,A,by rw[<- bV h hl,<- bV h hl,e]⟩
theorem Co {W:World} {base m0:Nat} {e:TypeId} {size n:Nat} {v:Value} {xs:List Value} (h:W.ownsRow base e size v n xs) (hm:m0<base) {W':World} (g:W.grownBy W' (some m0)):W'.ownsRow base e size v n xs:=by
 refine h.kept g ?_;by_cases hv:v.ownBlock=none
 ·exact .inl hv
 exact .inr (λ e'=>by have:=(h.lt _ e').1;omega)
theorem PB.put {w W2 wr:World} {B m0 tb ib b:Nat} {o:Obj} {g:List Q} {L:List Grid} {I:Grid} {v:Value} {pl:List Plc} (h:PB w W2 wr B m0 tb ib b o g L I v pl) (hB:m0<B) (L':List Grid):PB w W2 (putM gridV wr m0 (setM L')) B m0 tb ib b o g L' I v pl:=by
 obtain⟨C,A,D,F,J,H,G⟩:=h.size;exact⟨HasM.put h.map.lt _,(zt wr (by omega) _).trans h.ground,(zt wr (by omega) _).trans h.box,(zt wr (by omega) _).trans h.res,Co h.own (by omega) (dn wr m0 _),
  (zt wr (by omega) _).trans h.img,(zt wr (by omega) _).trans h.obj,h.keeps.trans ⟨by rw[aj];exact ye _,λ j o' hj hjo _=>(zt wr (by omega) _).trans hjo⟩,h.below.trans (bw wr (by omega) _),h.apart,h.size⟩
theorem PB.keep {w W2 wr wr':World} {B m0 tb ib b:Nat} {o:Obj} {g:List Q} {L:List Grid} {I:Grid} {v:Value} {pl:List Plc} (h:PB w W2 wr B m0 tb ib b o g L I v pl) (e:Bw wr wr'):PB w W2 wr' B m0 tb ib b o g L I v pl :=
 ⟨h.map.below e,h.ground.below e,(e.block _ h.box.lt).trans h.box,(e.block _ h.res.lt).trans h.res,qf h.own e,h.img.below e,(e.block _ (ya.1 h.obj).1).trans h.obj,
  h.keeps.trans ⟨e.size,λ k o' _ hk _=>(e.block _ (ya.1 hk).1).trans hk⟩,h.below.tm e,h.apart,h.size⟩
theorem PB.cell {w W2 wr:World} {B m0 tb ib b:Nat} {o:Obj} {g:List Q} {L:List Grid} {I:Grid} {v:Value} {pl:List Plc} (h:PB w W2 wr B m0 tb ib b o g L I v pl) {cs:Array Value} {T:TypeId} (ht:wr.heap[tb]?=some (.cells cs T)) (j:Nat) (u:Value):PB w W2 (wr.setCell ⟨tb,j,none⟩ u) B m0 tb ib b o g L I v pl:=by
 obtain⟨G,F,H,J,N,M,K⟩:=h.size;have A:∀ {k:Nat} {x:Obj},k≠tb->wr.heap[k]?=some x->(wr.setCell ⟨tb,j,none⟩ u).heap[k]?=some x:=λ hk hx=>(yq wr _ _ u hk).trans hx;have C:(wr.setCell ⟨tb,j,none⟩ u).heap.size=wr.heap.size:=by simp
 refine⟨A (by omega) h.map,A (by omega) h.ground,A (by omega) h.box,A (by omega) h.res,?_,A (by omega) h.img,A (by omega) h.obj,
  h.keeps.trans ⟨by rw[C];exact ye _,λ k o' _ hk ho=>?_⟩,h.below.setCell (by simp;omega) _,h.apart,h.size⟩
 ·have D:wr.grownBy (wr.setCell ⟨tb,j,none⟩ u) (some tb):=⟨rfl,rfl,rfl,by rw[C];exact ye _,λ k _ hk=>yq wr _ _ u (λ e=>hk (by rw[e]))⟩;refine World.ownsRow.kept h.own D ?_;by_cases hv:v.ownBlock=none
  ·exact .inl hv
  exact .inr (λ e'=>(h.apart _ e').2.1 rfl)
 by_cases hk':k=tb
 ·subst hk';rw[ht]at hk;cases hk;cases ho
 exact A hk' hk
theorem wm {W:World} {tb:Nat} {a b c d:Value} {T:TypeId} (h:W.heap[tb]?=some (.cells #[a,b,c,d] T)) (u:Value):(W.setCell ⟨tb,3,none⟩ u).heap[tb]?=some (.cells #[a,b,c,u] T):=by
 obtain⟨A,B⟩:=ya.1 h;show (W.heap.modify tb _)[tb]?=_;rw[yD (by rw[Array.size_modify];exact A),Array.getElem_modify_self,B];rfl
theorem Ao {W:World} {tb:Nat} {a b c d:Value} {T:TypeId} (h:W.heap[tb]?=some (.cells #[a,b,c,d] T)) (u:Value):(W.setCell ⟨tb,2,none⟩ u).heap[tb]?=some (.cells #[a,b,u,d] T):=by
 obtain⟨A,B⟩:=ya.1 h;show (W.heap.modify tb _)[tb]?=_;rw[yD (by rw[Array.size_modify];exact A),Array.getElem_modify_self,B];rfl
theorem PB.append {w W2 wr w8:World} {B m0 tb ib b:Nat} {o:Obj} {g:List Q} {L:List Grid} {I:Grid} {v v':Value} {pl:List Plc} {p:Plc} {O:Obj} (h:PB w W2 wr B m0 tb ib b o g L I v pl) {cs:Array Value} {T:TypeId} (ht:wr.heap[tb]?=some (.cells cs T))
  (hown:w8.ownsRow (m0+3) 45 4 v' (pl.length+1) (pCells pl++pVals p)) (hg:(wr.alloc O).grownBy w8 v.ownBlock) (hat:v'.ownBlock=v.ownBlock\/v'.ownBlock=some (wr.alloc O).heap.size) :
  PB w W2 (w8.setCell ⟨w.heap.size,0,none⟩ v') B m0 tb ib b o g L I v' (pl++[p])/\(w8.setCell ⟨w.heap.size,0,none⟩ v').heap[tb]?=some (.cells cs T):=by
 obtain⟨X,Y,Z,c,a,U,W⟩:=h.size;have F:∀ k,v.ownBlock=some k->m0+3<=k/\k<wr.heap.size:=λ k hk=>World.ownsRow.lt h.own k hk;have A:∀ {k:Nat} {x:Obj},k≠w.heap.size->some k≠v.ownBlock->wr.heap[k]?=some x->(w8.setCell ⟨w.heap.size,0,none⟩ v').heap[k]?=some x:=λ {k x} hk hv hx =>
  (yq w8 _ _ v' hk).trans ((hg.block k (by have:=(ya.1 hx).1;simp;omega) hv).trans (heapO _ hx))
 have D:∀ {k:Nat},k<m0+3->some k≠v.ownBlock:=λ hk e=>by have:=(F _ e.symm).1;omega
 have C:Boxed w8 w.heap.size 75 v:=(hg.block _ (by have:=h.res.lt;simp;omega) (D (by omega))).trans (heapO _ h.res);have N:wr.heap.size+1<=w8.heap.size:=by have:=hg.size;simpa using this
 refine⟨⟨A (by omega) (D (by omega)) h.map,A (by omega) (D (by omega)) h.ground,A (by omega) (D (by omega)) h.box,Boxed.set _ C,?_,A (by omega) (λ e=>(h.apart _ e.symm).2.2 rfl) h.img,A (by omega) (λ e=>(h.apart _ e.symm).1 rfl) h.obj,
  h.keeps.trans ?_,?_,λ k hk=>?_,h.size⟩,A (by omega) (λ e=>(h.apart _ e.symm).2.1 rfl) ht⟩
 ·have H:w8.grownBy (w8.setCell ⟨w.heap.size,0,none⟩ v') (some w.heap.size):=grownBy_setCell' w8 _ v';refine World.ownsRow.kept (rc hown) H ?_;by_cases hv:v'.ownBlock=none
  ·exact .inl hv
  exact .inr (λ e=>by have:=(hown.lt _ e).1;omega)
 ·have M:KeepsFrom B wr (wr.alloc O):=⟨by simp,λ k o' _ hk _=>heapO _ hk⟩;have R:KeepsFrom B (wr.alloc O) w8:=fJ hg (λ k hk=>by
   rcases h.own.2 with⟨G,_⟩|⟨g',cap,cur,G,_,J,_⟩
   ·rw[G]at hk;cases hk
   rw[G]at hk;simp only[Value.ownBlock,yo]at hk;subst hk;exact⟨_,_,_,heapO _ J⟩)
  have P:KeepsFrom B w8 (w8.setCell ⟨w.heap.size,0,none⟩ v'):=⟨by simp,λ k o' _ hk ho=>by
   by_cases e:k=w.heap.size
   ·subst e;rw[show w8.heap[w.heap.size]?=_ from C]at hk;cases hk;cases ho
   exact(yq w8 _ _ v' e).trans hk⟩
  exact(M.trans R).trans P
 ·have K:=h.below.size;exact((h.below.alloc K _).grown hg (by rw[yp];omega) (λ k hk=>by have:=(F k hk).1;omega)).setCell (ye _) _
 ·rcases hat with e|e
  ·rw[e]at hk;exact h.apart k hk
  rw[e,yp]at hk;simp only[yo]at hk;have V:=(ya.1 h.obj).1;have J:=(ya.1 ht).1;have S:=(ya.1 h.img).1;omega
theorem mr {W:World} {b:Nat} {g:Grid} (h:HasG W b g):(Instr.loadAt 120 (.pointer (some ⟨b,0,none⟩))).run Tryz.prog W=.ok (gridV g) W:=by
 have:=run_loadVar_row W b 120 120 (gridA g) (0,0) _ h underlying120 rfl (by rw[size_gridA];exact sizeG);simp only[gridV,Instr.loadAt,Instr.sureAddr,yG,yH,yz,this]
def plS (w W2:World) (B m0 tb ib b:Nat) (o:Obj) (g:List Q) (L:List Grid) (I:Grid) (u:Value) (pl:List Plc) (c0 c1 c2 c3:Value) (W:World):Prop :=
 PB w W2 W B m0 tb ib b o g L I u pl/\W.heap[tb]?=some (.cells #[c0,c1,c2,c3] 45)
theorem qb {w W2:World} {B m0 tb ib b:Nat} {o:Obj} {g:List Q} {L:List Grid} {I:Grid} {u:Value} {pl:List Plc} {c0 c1 c2 c3:Value} {W W':World} (h:plS w W2 B m0 tb ib b o g L I u pl c0 c1 c2 c3 W) (e:Bw W W'):plS w W2 B m0 tb ib b o g L I u pl c0 c1 c2 c3 W' :=
 ⟨h.1.keep e,(e.block _ (ya.1 h.2).1).trans h.2⟩
def plF (tb:Nat) (g:List Q) (I:Grid) (i j:Nat):Nat->Value->World->Prop
 | 0,u,_=>u=gridV I
 | 1,u,_=>u=.pointer (some ⟨tb,2,none⟩)
 | 2,u,_=>u=.int .i64 i
 | 3,u,_=>u=.pointer (some ⟨tb,3,none⟩)
 | 4,u,_=>u=.int .i64 j
 | 5,u,_=>u=gridV (atG I i j)
 | 6,u,_=>u=gridV (layG g)
 | _,u,_=>u=.bool (inG (atG I i j) (layG g))
theorem CF {tb:Nat} {g:List Q} {I:Grid} {i j n:Nat} {u:Value} {W W':World} (h:plF tb g I i j n u W):plF tb g I i j n u W':=by
 unfold plF at *;split at h <;> exact h
theorem infoByte:(Tryz.prog.info? 5).map (λ i=>(i.zero,i.size,i.bytes))=some (some (.int .u8 0),1,1):=by kernel_rfl
theorem uu {W:World} {a:Addr} {l:List Q} (h:QsAt W a l):∀ (j:Nat) (u:Value),(qCells l)[j]?=some u->W.cell? (a.add j)=some u:=by
 intro j u hu;obtain⟨i,r,J,rfl⟩:∃ i r,r<3/\j=i*3+r:=⟨j / 3,j % 3,Nat.mod_lt _ (by decide),by omega⟩;have I:i*3+r<l.length*3:=by
  have:=(yc.1 hu).1;rwa [eZ]at this
 obtain⟨q,A⟩:∃ q,l[i]?=some q:=⟨_,yb (by omega)⟩;obtain⟨D,H,G⟩:=cJ A;have C:=h.at0 _ q A;have F:=h.at1 _ q A;have B:=h.at2 _ q A;rcases (by omega:r=0\/r=1\/r=2)with rfl|rfl|rfl
 ·rw[Nat.add_zero]at hu ⊢;rw[D]at hu;cases hu;exact C
 ·rw[H]at hu;cases hu;rw[<- F];congr 1;unfold Addr.add;by_cases h0:i*3=0 <;> simp[h0]
  rw[kQ]
 rw[G]at hu;cases hu;rw[<- B];congr 1;unfold Addr.add;by_cases h0:i*3=0 <;> simp[h0]
 rw[kQ]
def kindsL:List (ByteArray × ByteArray):=[(⟨#[115,113,117,97,114,101]⟩,⟨#[102]⟩),(⟨#[111,98,108,111,110,103]⟩,⟨#[102,102]⟩),(⟨#[103,114,101,97,116]⟩,⟨#[102,102,47,102,102]⟩),(⟨#[104,97,108,102]⟩,⟨#[51]⟩),
 (⟨#[113,117,97,114,116,101,114]⟩,⟨#[49]⟩),(⟨#[116,114,105,97,110,103,108,101]⟩,⟨#[54,99]⟩),(⟨#[100,105,97,109,111,110,100]⟩,⟨#[54,99,47,51,57]⟩),(⟨#[98,101,110,116]⟩,⟨#[102,48,47,102,102]⟩)]
def kindsA:Array Value:=(kindsL.flatMap λ p=>[Value.string p.1,Value.string p.2]).toArray
theorem HasQQ.slice {W:World} {v:Value} {ls:List (List Q)} (h:HasQQ W v ls):∃ p c,v=.slice p ls.length c:=by
 rcases h with⟨rfl,rfl⟩|⟨a,cap,vs,rfl,_⟩
 ·exact⟨_,_,rfl⟩
 exact⟨_,_,rfl⟩
theorem HasP.slice {W:World} {v:Value} {l:List Plc} (h:HasP W v l):∃ p c,v=.slice p l.length c:=by
 rcases h with⟨rfl,rfl⟩|⟨a,c,rfl,_⟩
 ·exact⟨_,_,rfl⟩
 exact⟨_,_,rfl⟩
theorem HasEs.slice {W:World} {v:Value} {l:List E} (h:HasEs W v l):∃ p c,v=.slice p l.length c:=by
 rcases h with⟨rfl,rfl⟩|⟨a,c,rfl,_⟩
 ·exact⟨_,_,rfl⟩
 exact⟨_,_,rfl⟩
end Go.Proofs.YtiinlplgloaanaaGreatDoor
namespace Go.Proofs.YtiinlplgloaanaaGreatDoor
open Go.Proofs.Tryz Go.RowKit Go.ChangeShapes Go.WideShapes Go.Deep
theorem cellsQ':Tryz.prog.cellsOf 56=3:=by kernel_rfl
theorem cellsI':Tryz.prog.cellsOf 3=1:=by kernel_rfl
instance :Inhabited Q:=⟨⟨0,0,0⟩⟩
theorem structQ:∃ f0 f1 f2:Field,Tryz.prog.underlying 56=some (.struct #[f0,f1,f2])/\f0.type=3/\f1.type=3/\f2.type=3/\f0.offset=0/\f1.offset=1/\f2.offset=2:=⟨_,_,_,underlying56,rfl,rfl,rfl,rfl,rfl,rfl⟩
theorem nC {H:Type} {enc:TypeId × Value->H} {w:World} {spare:Nat->Bool} {held:Bool} {fuel:Nat} {v:Value} {x:DataW H × List MemPlace} (h:DataW.trod enc Tryz.prog w 0 spare held fuel 22 [v]=some x):∃ l,HasQ w v l:=by
 rcases open_slice underlying22 h with⟨B,_⟩|⟨a,len,cap,m,n,D,Pl,B,_,hl,hm,hmm,_,hx⟩
 ·simp only[YY,and_true]at B;exact⟨[],.inl ⟨B,rfl⟩⟩
 simp only[YY,and_true]at B;subst B;have t:len<=m:=by rw[hmm];split <;> omega
 obtain⟨g,z,f2,hs,o,p,b,Y,c,d⟩:=structQ;have F:∀ i,i<m->∃ q:Q,w.cell? (a.add (i*3))=some (.int .i64 q.x)/\w.cell? (a.add (i*3+1))=some (.int .i64 q.y)/\w.cell? (a.add (i*3+2))=some (.int .i64 q.s):=by
  intro i M;obtain⟨O,T,j⟩:=hx i M;rw[cellsQ']at T;obtain⟨_,G,A⟩:=World.cells?_some T;obtain⟨xs,k,hk,f,_,K,N⟩:=DataW.trod_struct hs j
  match xs,K,O,G with
  | [y0,y1,y2],_,[v0,v1,v2],_ =>
   have U:=N 0 g rfl;have S:=N 1 z rfl;have W:=N 2 f2 rfl;simp[Y,c,d,o,p,b,cellsI']at U S W;obtain⟨Z,P,_⟩:=DataW.trod_int underlying3 U;obtain⟨n1,X,_⟩:=DataW.trod_int underlying3 S;obtain⟨e,V,_⟩:=DataW.trod_int underlying3 W;simp only[YY,and_true]at P X V;subst P;subst X;subst V;have C:=A 0 (by omega);have I:=A 1 (by omega);have J:=A 2 (by omega);rw[add_add]at C I J;exact⟨⟨Z,n1,e⟩,by simpa using C,by simpa using I,by simpa using J⟩
 obtain⟨q,R⟩:=choose_lt F;refine⟨(List.range len).map q,.inr ⟨a,cap,by simp,by simpa using hl,hm,?_,λ i r hr=>?_,λ i r hr=>?_,λ i r hr=>?_⟩⟩
 ·intro L;have B:0<len:=by
   rcases Nat.eq_zero_or_pos len with h|h
   ·subst h;exact kV rfl L
   exact h
  obtain⟨C,_⟩:=R 0 (by omega);rw[Nat.zero_mul]at C;unfold World.cell? at C;rcases kg (a.add 0).block w.heap.size with h|h
  ·rwa [block_add]at h
  rw[ky h]at C;cases C
 all_goals
  have M:i<len:=by have:=(yc.1 hr).1;simpa using this
  rw[yQ,kG M]at hr
  simp only[kr,yo]at hr
  subst hr
  obtain⟨C,I,J⟩:=R i (by omega)
 ·exact C
 ·rw[<- I];congr 1;unfold Addr.add;by_cases B:i*3=0 <;> simp[B]
  rw[kQ]
 rw[<- J];congr 1;unfold Addr.add;by_cases B:i*3=0 <;> simp[B]
 rw[kQ]
theorem CM {H:Type} {enc:TypeId × Value->H} {a:Assume} {C:Checked} {os:Os} {f:FuncId} {fn:Func} {s:ChangeSpec} {conds:List PathCond} {apart fresh handsOn again:Bool} {X:World->Array Value->Prop}
  (hX:∀ (w w':World) (args:Array Value),w.heap=w'.heap->X w args->X w' args)
  (own:ownKnob C.prog.godebug=none) (started:os.Started) (noInit:C.prog.inits.idxOf? f=none) (hfn:C.prog.funcs[f]?=some fn)
  (witness:∃ (w:World) (tape:Tape) (i:Input),w.os=os/\(w.forCall tape i).Shaped C.prog/\i.vars=[]/\Input.okWide C.prog (w.forCall tape i) .any w.heap.size f i /\
   ((s.pre enc C.prog fn conds apart (w.forCall tape i).memory i.args/\X (w.forCall tape i).memory i.args)/\sizedMet enc C.prog fn (OpenSpec.ofChange s) apart (w.forCall tape i).memory i.args)/\a.holds C.prog (lone (Frame.enter C.prog f i.args .normal) [] (w.forCall tape i)))
  (contract:∀ (W:World) (base:Nat) (args:Array Value) (ds gs:List (DataW H)) (before:List MemPlace),
   (∀ (j:Nat) t v,fn.params[j]?=some t->args[j]?=some v->Value.okWide C.prog W .any base t v) ->
   DataW.Whole enc C.prog fn.params.toList s.vars apart W args.toList ds gs before ->
   (DataW.weightsEach C.prog (fn.params.toList++s.plain.varTypes C.prog) (ds++gs)).all (·<=reachBytes)=true->X W args->W.ShapedOpen C.prog ->
   Calls C.prog f args W λ e W'=>∃ v,e=.returned v/\s.post enc C.prog fn apart fresh handsOn again W args v W') :
  ReturnsInHanded a C os f .any (λ w args=>(s.pre enc C.prog fn conds apart w args/\X w args)/\sizedMet enc C.prog fn (OpenSpec.ofChange s) apart w args) (s.post enc C.prog fn apart fresh handsOn again):=by
 refine returnsInHanded_of_calls own started noInit witness ?_;intro w tape i _ hsh _ hok hpre _;obtain⟨_,_,_,F,B,_,_,_,_,A⟩:=hok;have e:F=fn:=YX (B.symm.trans hfn);subst e;obtain⟨⟨⟨ds,gs,before,G,K⟩,J⟩,I⟩:=hpre;have D:=DataW.Whole.of_heap (w':=w.forCall tape i) (by rfl) G;refine(contract (w.forCall tape i) w.heap.size i.args ds gs before A D (I.weights G) (hX _ _ _ (by rfl) J) hsh).mono λ e W' ⟨v,he,hp⟩=>?_;subst he;exact ChangeSpec.post_blind hp
theorem ownKnobs:ownKnob Tryz.prog.godebug=none:=by kernel_rfl
theorem xx {W:World} {base:Nat} {t e:TypeId} {a:Addr} {len cap:Nat} (ht:Tryz.prog.underlying t=some (.slice e)) (h:Value.okWide Tryz.prog W .any base t (.slice (some a) len cap)):a.block<W.heap.size:=by
 simp only[Value.okWide,ht,Cell.okWide,Cell.ok,World.has]at h;obtain⟨_,_,_,_,row,cells,A,_⟩:=h;rcases kg a.block W.heap.size with h'|h'
 ·exact h'
 simp[World.shape?,ky h']at A
theorem laidOuts:laidOutB Tryz.prog=true:=by kernel_rfl
end Go.Proofs.YtiinlplgloaanaaGreatDoor
namespace Go.Proofs.YtiinlplgloaanaaGreatDoor
open Go.Proofs.Tryz Go.RowKit Go.ChangeShapes Go.WideShapes Go.Deep Go.Joins
open Go.ChangeMaps (open_string shut_string)
theorem cellsPl:Tryz.prog.cellsOf 45=4:=by kernel_rfl
theorem cellsS':Tryz.prog.cellsOf 22=1:=by kernel_rfl
theorem rK {H:Type} {enc:TypeId × Value->H} {W:World} {spare:Nat->Bool} {held:Bool} {fuel:Nat} {v:Value} {x:DataW H × List MemPlace} (hlt:∀ a len cap,v=.slice (some a) len cap->a.block<W.heap.size) (hf:DataW.trod enc Tryz.prog W 0 spare held fuel 29 [v]=some x):∃ ls,HasQQ W v ls:=by
 rcases open_slice underlying29 hf with⟨F,_⟩|⟨a,len,cap,m,n,D,Pl,F,_,hl,hm,hmm,_,hx⟩
 ·simp only[YY,and_true]at F;exact⟨[],.inl ⟨F,rfl⟩⟩
 simp only[YY,and_true]at F;subst F;have N:len<=m:=by rw[hmm];split <;> omega
 have G:∀ i,i<m->∃ q:Value × List Q,W.cell? (a.add i)=some q.1/\HasQ W q.1 q.2:=by
  intro i B;obtain⟨J,K,M⟩:=hx i B;rw[cellsS',Nat.mul_one]at K;obtain⟨_,C,A⟩:=World.cells?_some K
  match J,C with
  | [u],_ =>
   obtain⟨l,I⟩:=nC M;have L:=A 0 (by omega);rw[add_add]at L;exact⟨(u,l),by simpa using L,I⟩
 obtain⟨q,I⟩:=choose_lt G;refine⟨(List.range len).map (λ i=>(q i).2),.inr ⟨a,cap,(List.range len).map (λ i=>(q i).1),by simp,by simpa using hl,hm,⟨hlt a len cap rfl,λ i u hu=>?_⟩,by simp,λ i u l hu hl'=>?_⟩⟩
 ·have B:i<len:=by have:=(yc.1 hu).1;simpa using this
  rw[yQ,kG B]at hu;simp only[kr,yo]at hu;subst hu;exact(I i (by omega)).1
 have B:i<len:=by have:=(yc.1 hu).1;simpa using this
 rw[yQ,kG B]at hu hl';simp only[kr,yo]at hu hl';subst hu hl';exact(I i (by omega)).2
end Go.Proofs.YtiinlplgloaanaaGreatDoor
namespace Go.Proofs.YtiinlplgloaanaaGreatDoor
open Go.Proofs.Tryz Go.RowKit
theorem tF {α:Type} {l:List α} {k:Nat} {q:α} (h:l[k]?=some q):l.take (k+1)=l.take k++[q]:=by
 obtain⟨hk,rfl⟩:=yc.1 h;exact Yr hk
attribute [local go_sem] Oper.semAt_some
def oneP (l:List Q):Bool:=decide (l.length=1)
def borderE (l:List Q):List E:=((ownL [] l).filter (λ m=>oneP m.2)).map (·.1)
theorem Cs (l:List Q) (v:Value) (w:World) (h:HasQ w v l) :
  Calls Tryz.prog 58 #[v] w λ e w'=>e=.returned (.bool (oneP l))/\Bw w w':=by
 obtain⟨p,c,rfl⟩:=h.slice;have C:l.length<=maxLen:=by
  rcases h with⟨_,h⟩|⟨a,c,_,h1,h2,_⟩
  ·rw[h];decide
  exact yJ h1 h2
 simp only[maxLen]at C;clear h;have B:Hid (oneP l=decide (l.length=1)):=yK rfl;by_cases h1:l.length=1
 ·have D:((l.length:Int)==1)=true:=by rw[h1];rfl
  have A:Hid (oneP l=true):=yK (by rw[B.o];exact yw h1);clear h1;go_enter func58,ntmps58;go_wp2_with fail;go_ret;exact⟨qL (by first|exact A.o.symm|(rw[A.o];simp <;> omega)),yf _ _⟩
 ·have D:((l.length:Int)==1)=false:=by rw[Ys];omega
  have A:Hid (oneP l=false):=yK (by rw[B.o];exact yv h1);clear h1;go_enter func58,ntmps58;go_wp2_with fail;go_ret;exact⟨qL (by first|exact A.o.symm|(rw[A.o];simp <;> omega)),yf _ _⟩
end Go.Proofs.YtiinlplgloaanaaGreatDoor
namespace Go.Proofs.YtiinlplgloaanaaGreatDoor
open Go.Proofs.Tryz Go.RowKit
def whoE (l:List Q) (e:E):List Q:=l.filter λ q=>decide (e∈edgesQ q)
def GoodM (M:List (E × List Q)) (f:E->List Q):Prop:=(M.map (·.1)).Nodup/\(∀ m∈M,m.2=f m.1)/\(∀ e,f e≠[]->e∈M.map (·.1))/\∀ m∈M,m.2≠[]
theorem xm {M:List (E × List Q)} {e:E} {q:Q} (h:(M.map (·.1)).Nodup):((addE M e q).map (·.1)).Nodup/\(∀ x,x∈(addE M e q).map (·.1)↔x=e\/x∈M.map (·.1)):=by
 induction M with
 | nil=>simp[addE]
 | cons m M ih =>
  unfold addE;rw[yM,List.nodup_cons]at h;by_cases he:m.1=e
  ·rw[Yz he];refine⟨by rw[yM,List.nodup_cons];rw[<- he];exact h,λ x=>?_⟩;simp only[yM,Yd];constructor
   ·rintro (h1|h1)
    ·exact .inl h1
    exact .inr (.inr h1)
   rintro (h1|h1|h1)
   ·exact .inl h1
   ·exact .inl (h1.trans he)
   exact .inr h1
  rw[Yy he];obtain⟨B,A⟩:=ih h.2;refine⟨by rw[yM,List.nodup_cons];exact⟨λ h'=>by rcases (A _).1 h' with h''|h'';exact he h'';exact h.1 h'',B⟩,λ x=>?_⟩;simp only[yM,Yd,A];constructor
  ·rintro (h1|h1|h1)
   ·exact .inr (.inl h1)
   ·exact .inl h1
   exact .inr (.inr h1)
  rintro (h1|h1|h1)
  ·exact .inr (.inl h1)
  ·exact .inl h1
  exact .inr (.inr h1)
theorem DF {M:List (E × List Q)} {e:E} {q:Q} {f:E->List Q} (h:GoodM M f):GoodM (addE M e q) (λ x=>if x=e then f e++[q]else f x):=by
 obtain⟨B,F,K,G⟩:=h;obtain⟨N,L⟩:=xm (e:=e) (q:=q) B;refine⟨N,?_,λ x hx=>?_,?_⟩
 ·by_cases hm:e∈M.map (·.1)
  ·obtain⟨m,C,rfl⟩:=yP.1 hm;obtain⟨I,J,rfl⟩:=List.append_of_mem C;have A:∀ x∈I,x.1≠m.1:=λ x hx e=>by
    rw[Yl,ko]at B;exact B.2.2 x.1 (yP.2 ⟨x,hx,rfl⟩) m.1 (by simp) e
   have D:∀ x∈J,x.1≠m.1:=λ x hx e=>by
    rw[Yl,ko,yM,List.nodup_cons]at B;exact B.2.1.1 (yP.2 ⟨x,hx,e⟩)
   rw[show (m:E × List Q)=(m.1,m.2)from rfl,im A q];intro x hx;rcases yY.1 hx with hx|hx
   ·simp only[Yy (A x hx)];exact F x (by simp[hx])
   rcases Yd.1 hx with rfl|hx
   ·simp only[if_true];rw[F m (by simp)]
   simp only[Yy (D x hx)];exact F x (by simp[hx])
  have A:∀ x∈M,x.1≠e:=λ x hx he=>hm (yP.2 ⟨x,hx,he⟩);rw[fm A q];have H:f e=[]:=by
   by_cases h:f e=[]
   ·exact h
   exact kV (K e h) hm
  intro x hx;rcases yY.1 hx with hx|hx
  ·simp only[Yy (A x hx)];exact F x hx
  rw[yU]at hx;subst hx;simp[H]
 ·rw[L];by_cases he:x=e
  ·exact .inl he
  simp only[Yy he]at hx;exact .inr (K x hx)
 by_cases hm:e∈M.map (·.1)
 ·obtain⟨m,C,rfl⟩:=yP.1 hm;obtain⟨I,J,rfl⟩:=List.append_of_mem C;have A:∀ x∈I,x.1≠m.1:=λ x hx e=>by
   rw[Yl,ko]at B;exact B.2.2 x.1 (yP.2 ⟨x,hx,rfl⟩) m.1 (by simp) e
  rw[show (m:E × List Q)=(m.1,m.2)from rfl,im A q];intro x hx;rcases yY.1 hx with hx|hx
  ·exact G x (by simp[hx])
  rcases Yd.1 hx with rfl|hx
  ·simp
  exact G x (by simp[hx])
 have A:∀ x∈M,x.1≠e:=λ x hx he=>hm (yP.2 ⟨x,hx,he⟩);rw[fm A q];intro x hx;rcases yY.1 hx with hx|hx
 ·exact G x hx
 rw[yU]at hx;subst hx;simp
theorem xg {q:Q} (h:inQ q):(edgesQ q).Nodup:=by
 obtain⟨x,y,s,rfl,hx,hy,hs⟩:=cH h;rcases (by omega:s=0\/s=1\/s=2\/s=3)with rfl|rfl|rfl|rfl <;> simp[edgesQ,sideE]
theorem oG {f:E->List Q} {q:Q}:∀ {es:List E} {M:List (E × List Q)} {f:E->List Q},GoodM M f->es.Nodup->GoodM (es.foldl (λ M e=>addE M e q) M) (λ x=>if x∈es then f x++[q]else f x)
 | [],M,f,h,_=>by simpa using h
 | e :: es,M,f,h,hn=>by
  rw[List.nodup_cons]at hn;have h1:=oG (f:=f) (q:=q) (es:=es) (DF (e:=e) (q:=q) h) hn.2;rw[Yu];have e2:(λ x=>if x∈es then(if x=e then f e++[q]else f x)++[q]else if x=e then f e++[q]else f x)=λ x=>if x∈e :: es then f x++[q]else f x:=by
   funext x
   by_cases hx:x=e
   ·subst hx;simp[hn.1]
   simp[hx]
  rw[<- e2];exact h1
theorem nA:∀ {l:List Q} {M:List (E × List Q)} {f:E->List Q},GoodM M f->(∀ q∈l,inQ q)->GoodM (ownL M l) (λ e=>f e++whoE l e)
 | [],M,f,h,_=>by simpa[whoE,ownL]using h
 | q :: l,M,f,h,hq=>by
  have h1:=oG (f:=f) (q:=q) h (xg (hq q (by simp)));have h2:=nA (l:=l) h1 (λ p hp=>hq p (by simp[hp]));have e2:(λ e=>(if e∈edgesQ q then f e++[q]else f e)++whoE l e)=λ e=>f e++whoE (q :: l) e:=by
   funext e
   unfold whoE;by_cases he:e∈edgesQ q
   ·rw[Yz he,List.filter_cons_of_pos (by simpa using he)];simp
   rw[Yy he,List.filter_cons_of_neg (by simpa using he)]
  rw[e2]at h2;exact h2
theorem fL {l:List Q} (h:∀ q∈l,inQ q):GoodM (ownL [] l) (whoE l):=by
 have:=nA (l:=l) (M:=[]) (f:=λ _=>[]) ⟨by simp,λ m hm=>(by cases hm),λ e he=>kV rfl he,λ m hm=>(by cases hm)⟩ h;simpa using this
theorem ce {l:List Q} (h:∀ q∈l,inQ q) {p:List Q->Bool} (hp:p []=false) (e:E):e∈((ownL [] l).filter (λ m=>p m.2)).map (·.1)↔p (whoE l e)=true:=by
 obtain⟨H,F,G,I⟩:=fL h;rw[yP];constructor
 ·rintro⟨m,B,rfl⟩;rw[YZ]at B;rw[<- F m B.1];exact B.2
 intro A;have C:whoE l e≠[]:=λ e0=>by rw[e0,hp]at A;cases A
 obtain⟨m,B,D⟩:=yP.1 (G e C);refine⟨m,YZ.2 ⟨B,?_⟩,D⟩;rw[F m B,D];exact A
theorem sT {l:List Q} (h:∀ q∈l,inQ q) (p:List Q->Bool):(((ownL [] l).filter (λ m=>p m.2)).map (·.1)).Nodup :=
 (fL h).1.sublist (List.filter_sublist.map _)
theorem BY (q:Q):(edgesQ q).length=3:=rfl
