/- Chapter 7 in the heap: the joints below. -/
import Derived.Test.YtiinlplgloaanaaGreatDoorZzLayerTouches36
set_option linter.all false
set_option maxRecDepth 100000
set_option maxHeartbeats 4000000
namespace Go.Proofs.YtiinlplgloaanaaGreatDoor
open Go.Proofs.Tryz Go.RowKit
attribute [local go_sem] Oper.semAt_some
theorem qk (b base f:Nat) (caps:Array Value) (M:List (E × List Q)) (vs:List Value) (p:List Q->Bool) (w:World) (hg:Grp w b base M vs) (hM:M.length<=1000000)
  (hf:∀ args w,(callFunc f args).run Tryz.prog w=.ok (.enter f args) w)
  (hcl:∀ (W:World) (i:Nat) (v:Value) (m:E × List Q),Bw w W->vs[i]?=some v->M[i]?=some m->Calls Tryz.prog f (#[v]++caps) W λ e W'=>e=.returned (.bool (p m.2))/\Bw W W') :
  Calls Tryz.prog 57 #[.map (some b),.func (.func f) #[] caps] w λ e w'=>∃ v es,e=.returned v/\HasEs w' v es/\es.Perm ((M.filter (λ m=>p m.2)).map (·.1))/\es.Pairwise (λ a b=>¬ ltE b a)/\Bw w w'/\(∀ k,v.ownBlock=some k->w.heap.size<=k):=by
 have D6:=yK hcl;clear hcl;have T:=jV (P:=Tryz.prog) underlying130 hg.map;go_enter func57,ntmps57;go_wp2;clear T;have A:=HasIter.start w b (zipM M vs).length;have S:Bw w (w.alloc (.mapIter (some b) (zipM M vs).length #[] (zipM M vs).length)):=(yf _ w).alloc (ye _) _;have B0:=hg.below S;have E0:b<w.heap.size:=hg.map.lt;have s:=yK (jb hg.len);have E2:=yK hg.len;clear hg;revert A B0 S;generalize w.alloc (.mapIter (some b) (zipM M vs).length #[] (zipM M vs).length)=W0;intro A S B0;go_loopw [4] (λ v wr=>∃ (done:List Nat) (es:List E),Hid (HasIter wr w.heap.size b (zipM M vs).length done/\Grp wr b base M vs/\done.Nodup/\(∀ i∈done,i<M.length)/\OwnEd wr (w.heap.size+1) v es/\es=pickE M p done/\Bw w wr/\w.heap.size+1<=wr.heap.size)) (λ _ wr=>M.length-doneOf wr w.heap.size)
 case atStart=>exact⟨[],[],yK ⟨A,B0,by simp,by simp,kz _ _ _ 3,rfl,S,by have:=A.lt;omega⟩⟩
 case round =>
  obtain⟨done,es,HR⟩:=hrel;obtain⟨A,hg,A2,A8,hq,A4,hB,C7⟩:=HR.o;obtain⟨d,U,rfl⟩:=zf hq;have D3:done.length<=M.length:=nodup_lt_length _ _ A2 A8;have D9:es.length<=done.length:=by rw[A4];exact oR _ _ _
  have B8:=yK A.done;clear HR;have HG:=yK hg;have L:=hg.map;clear hg;have HQ:=yK hq;clear hq;have y:=yK A4;clear A4;have HD:=yK A2;clear A2;have A0:=yK A8;clear A8;go_wp2_with (first
   | (at_next;refine ox rfl _ rfl rfl A L ?_ ?_)
   | go_in)
  ·intro c;have G:∀ i,i<M.length->i∈done:=λ i hi=>c i (by rw[s.o];exact hi);have h1:done.Perm (List.range M.length):=(List.perm_ext_iff_of_nodup HD.o List.nodup_range).2 (λ i=>⟨λ h=>by simpa using A0.o i h,λ h=>G i (by simpa using h)⟩);have HP:Hid (es.Perm ((M.filter (λ m=>p m.2)).map (·.1))):=yK (by rw[y.o];exact jO M p h1);clear c G h1;by_cases he0:es=[]
   ·subst he0;have A5:=yK (λ W=>AnyF.slices_SortFunc_none { Tryz.sortE with } d U (.func (.func 108) #[] #[]) W);go_wp2_with fail;refine Calls.mono (show Calls Tryz.prog 107 _ _ _ from A5.o _) ?_;rintro e w2 ⟨rfl,rfl⟩;go_wp2_with fail;go_ret;refine⟨_,[],rfl,?_,HP.o,by simp,hB,λ k e=>yJ (YE _) (HQ.o.lt k e).1⟩;show HasEs w2 (.slice d ([]:List E).length U) [];rcases HQ.o.2 with⟨hn,_⟩|⟨g,cap,cur,hn,_,h2,h3,h4,_⟩
    ·exact .inl ⟨hn,rfl⟩
    rw[hn];refine .inr ⟨_,cap,rfl,h3,h4,?_,?_,?_,?_⟩
    ·exact(ya.1 h2).1
    all_goals(intro i q hq;simp at hq)
   obtain⟨g,rfl⟩:∃ g,d=some ⟨g,0,none⟩:=by
    rcases HQ.o.2 with⟨_,h0⟩|⟨g,cap,cur,hv,_⟩
    ·exact kV (yT.1 h0) he0
    simp only[yC]at hv;exact⟨g,hv.1⟩
   have HS:=yK (lQ (w.heap.size+1) g U es _ HQ.o C7 (by omega));clear he0;go_wp2_with fail;refine HS.o.mono ?_;rintro e w2 ⟨rfl,A1,C3,B2,B5,I,C9⟩;have D2:=hB.trans (C9.mono (YE _));have HF:Hid (HasEs w2 (.slice (some ⟨g,0,none⟩) es.length U) A1/\A1.Perm ((M.filter (λ m=>p m.2)).map (·.1))/\A1.Pairwise (λ a b=>¬ ltE b a)):=yK ⟨by rw[<- I];exact B5,C3.trans HP.o,B2⟩;clear C3 B2 B5 I HS;go_wp2_with fail;go_ret;exact⟨_,_,rfl,HF.o.1,HF.o.2.1,HF.o.2.2,D2,λ k e=>yJ (YE _) (HQ.o.lt k e).1⟩
  intro i x xv w1 hpe hnew hit1 hgr hsz1 hen;have hi:i<M.length:=by
   have:=(yc.1 hpe).1;rwa [s.o]at this
  obtain⟨m,hm,B7,A6⟩:=nz hpe;simp only at B7 A6;subst B7;clear hpe;have A9:=yK hm;have A3:Bw w w1:=(hB.grown hgr hB.size (λ j hj=>by cases hj;exact ye _));have C2:Grp w1 b base M vs:=by
   refine⟨L.grown hgr (by intro e;cases e;omega),HG.o.len,HG.o.ok,HG.o.keys,λ j u mm hu hmm=>?_,HG.o.apart⟩;have ho:=HG.o.each j u mm hu hmm;refine ho.kept hgr ?_;by_cases hv:u.ownBlock=none
   ·exact .inl hv
   refine .inr (λ e'=>?_);rcases ho.2 with⟨rfl,_⟩|⟨g,cap,cur,rfl,_,h2,_⟩
   ·cases e'
   simp only[Value.ownBlock,yo]at e';subst e';unfold HasIter at A;rw[h2]at A;cases A
  have C0:OwnEd w1 (w.heap.size+1) (.slice d es.length U) es:=HQ.o.kept hgr (by
   by_cases hv:(Value.slice d es.length U).ownBlock=none
   ·exact .inl hv
   exact .inr (λ e'=>by have:=(HQ.o.lt _ e').1;omega))
  have B1:w.heap.size+1<=w1.heap.size:=by omega
  have D5:=yK A6;clear hgr hsz1 L hm A6 hB A;have C1:=yK C2;clear C2;have B6:=yK C0;clear C0;have l:=yK hit1;clear hit1;obtain⟨⟨ex,V,Y⟩,row⟩:=m;unfold E.val at hen;go_wp2_with fail;have A7:(w1.alloc (.cells #[.int .i64 ex,.int .i64 V,.int .i64 Y] 61)).heap[w1.heap.size]?=some (.cells #[.int .i64 ex,.int .i64 V,.int .i64 Y] 61):=yd w1 _;have R:Bw w1 (w1.alloc (.cells #[.int .i64 ex,.int .i64 V,.int .i64 Y] 61)):=Below.alloc (yf _ w1) (ye _) _;refine(D6.o _ i xv (⟨ex,V,Y⟩,row) (A3.tm R) D5.o A9.o).mono ?_;rintro e w3 ⟨rfl,z⟩;have D:Bw w1 w3:=R.tm z;have C:=(z.block _ (ya.1 A7).1).trans A7;have N:=A3.tm D;have B:=yK (C1.o.below D);have O:=yK (l.o.below D);have X:=yK (qf B6.o D);have t:w.heap.size+1<=w3.heap.size:=yJ B1 D.size;have d0:w3.cell? ⟨w1.heap.size,0,none⟩=some (.int .i64 ex):=by simp[World.cell?,C]
  have d1:w3.cell? ⟨w1.heap.size,1,none⟩=some (.int .i64 V):=by simp[World.cell?,C]
  have d2:w3.cell? ⟨w1.heap.size,2,none⟩=some (.int .i64 Y):=by simp[World.cell?,C]
  clear A7 R z D C A3 C1 l B6 hen;have D8:done.length+1<=M.length:=by
   have:=nodup_lt_length M.length (done++[i]) (by
    rw[ko];exact⟨HD.o,by simp,λ a ha b hb e=>hnew (by rw[yU.1 hb]at e;rw[<- e];exact ha)⟩) (λ j hj=>by
    rcases yY.1 hj with h|h
    ·exact A0.o j h
    rw[yU.1 h];exact hi)
   simpa using this
  have Z:Hid ((done++[i]).Nodup/\∀ j∈done++[i],j<M.length):=yK ⟨by
    rw[ko];exact⟨HD.o,by simp,λ a ha b hb e=>hnew (by rw[yU.1 hb]at e;rw[<- e];exact ha)⟩,λ j hj=>by
    rcases yY.1 hj with h|h
    ·exact A0.o j h
    ·rw[yU.1 h];exact hi⟩
  have r:doneOf w3 w.heap.size=done.length+1:=by rw[O.o.done];simp
  have B4:=yK r;clear r
  cases hp:p row with
  | false =>
   have F:Hid (es=pickE M p (done++[i])):=yK (by rw[eD A9.o,y.o];simp[hp]);go_wp2_with fail
   go_roundw
   case rel=>exact⟨done++[i],es,yK ⟨O.o,B.o,Z.o.1,Z.o.2,X.o,F.o,N,t⟩⟩
   rw[B4.o,B8.o];omega
  | true =>
   have F:Hid (es++[⟨ex,V,Y⟩]=pickE M p (done++[i])):=yK (by rw[eD A9.o,y.o];simp[hp]);have D7:Hid (es.length+1<=maxLen):=yK (by simp only[maxLen];omega);have D4:Hid ((es.length+1)*24<=140737488355328):=yK (by omega);obtain⟨iE,C8,C5,D1,D0⟩:=info_parts infoE;go_wp2_with (first
    | (at_builtin;refine wpList_append_own _ rfl _ _ 32 rfl (w.heap.size+1) 61 iE _ 3 24 underlying32 C8 C5 D1 D0 rfl (by decide) (.slice d es.length U) es.length (eCells es) rfl (X.o.alloc _) ⟨w3.heap.size,0,none⟩ 1 1 (eVals ⟨ex,V,Y⟩) rfl rfl (nL ⟨ex,V,Y⟩) (fE _) D7.o D4.o (by rw[yp];omega) ?_;intro v' w4 hown' hgrow _;obtain⟨E1,E3,rfl⟩:=zf hown'))
   have H:w3.grownBy w4 (Value.slice d es.length U).ownBlock:=⟨hgrow.os,hgrow.tape,hgrow.output,yJ (by simp) hgrow.size,λ k hk hne=>(hgrow.block k (by simp;omega) hne).trans (Below.heap_alloc _ _ _ hk)⟩;have K:∀ k,(Value.slice d es.length U).ownBlock=some k->w.heap.size+1<=k:=λ k hk=>(X.o.lt k hk).1;have J:HasIter w4 w.heap.size b (zipM M vs).length (done++[i]):=O.o.grown H (λ e=>by have:=K _ e.symm;omega);have B3:Grp w4 b base M vs:=by
    refine⟨B.o.map.grown H (λ e=>by have:=K _ e.symm;omega),B.o.len,B.o.ok,B.o.keys,λ j u mm hu hmm=>?_,B.o.apart⟩;have ho:=B.o.each j u mm hu hmm;refine ho.kept H ?_;rcases ho.2 with⟨rfl,_⟩|⟨g,cap,cur,rfl,_,h2,_⟩
    ·exact .inl rfl
    rcases X.o.2 with⟨hn,_⟩|⟨g',cap',cur',hn,_,h2',_⟩
    ·exact .inr (by rw[hn];simp[Value.ownBlock])
    refine .inr (λ e'=>?_);rw[hn]at e';simp only[Value.ownBlock,yo]at e';subst e';rw[h2]at h2';simp only[yo,Yg]at h2';exact kV h2'.2.1 (by decide)
   have n:doneOf w4 w.heap.size=done.length+1:=(by rw[J.done];simp);have B9:=yK n;clear n;have C6:=yK B3;clear B3;have C4:=yK J;clear J
   go_roundw
   case rel=>exact⟨done++[i],es++[⟨ex,V,Y⟩],yK ⟨C4.o,C6.o,Z.o.1,Z.o.2,oh hown',F.o,N.grown H N.size (λ k hk=>by have:=K k hk;omega),yJ t H.size⟩⟩
   rw[B9.o,B8.o];omega
theorem nQ (l:List Q) (v:Value) (w:World) (hv:HasQ w v l) :
  Calls Tryz.prog 18 #[v] w λ e w'=>∃ u es,e=.returned (.tuple #[u,.int .i64 (checkN l)])/\HasEs w' u es/\(checkN l≠0->es=[])/\(checkN l=0->es.Perm (borderE l)/\es.Pairwise (λ a b=>¬ ltE b a))/\Bw w w'/\(∀ k,u.ownBlock=some k->w.heap.size<=k):=by
 obtain⟨n,g,rfl⟩:=hv.slice;have Z:=yK hv;clear hv;have V:=@run_makeMap Tryz.prog;go_enter func18,ntmps18;go_wp2_with fail;refine(check_any l _ w Z.o).mono ?_;rintro e w1 ⟨rfl,I⟩;have C:=yK I;clear I;by_cases hc:checkN l=0
 case neg =>
  have T:((checkN l:Int) != 0)=true:=by simpa using hc
  have S:Hid (checkN l≠0):=yK hc;clear hc;go_wp2_with fail;go_ret2;exact⟨.slice none 0 0,[],rfl,.inl ⟨rfl,rfl⟩,λ _=>rfl,λ h=>kV h S.o,C.o,λ k e=>by cases e⟩
 have T:((checkN l:Int) != 0)=false:=by simpa using hc
 have S:=yK hc;have G:=yK (qj hc);rw[hc];clear hc;have U:l.length<=400:=G.o.2.2;have J:Bw w1 (w1.alloc (.map #[] 0)):=(yf _ w1).alloc (ye _) _;have d:Grp (w1.alloc (.map #[] 0)) w1.heap.size (w1.heap.size+1) [] []:=⟨yd w1 _,rfl,λ m hm=>(by cases hm),List.nodup_nil,λ i v m hv _=>(by simp at hv),λ i j u v _ hu _=>(by simp at hu)⟩;have D:=yK (ic w1.heap.size (w1.heap.size+1) 0 [] [] l (.slice n l.length g) (w1.alloc (.map #[] 0)) d (by rw[yp];exact ye _) ((Z.o.below C.o).below J)
  (λ b hb=>by have:=(Z.o.below C.o).own_lt G.o.2.1 b hb;exact⟨by omega,by omega⟩) G.o.1.1 (λ m hm=>by cases hm) (by omega))
 clear J d;go_wp2_with fail;clear V;refine D.o.mono ?_;rintro e w2 ⟨rfl,⟨Y,L⟩,_,N⟩;have c:=yK L;have H:Hid (Bw w w2):=yK (by
  have p:Bw w1 w2:=((yf _ w1).alloc (ye _) _).trans (N.below (by omega) (ye _));exact C.o.tm p)
 clear L N D;have K:(ownL [] l).length<=1000000:=by
  have:=eh l [];simp only[yN]at this;omega
 have R:=yK (qk w1.heap.size (w1.heap.size+1) 58 #[] (ownL [] l) Y oneP w2 c.o K
  (λ args w=>by kernel_rfl)
  (λ W i v m hB hv hm=>Cs m.2 v W ((c.o.each i v m hv hm).has.below hB)))
 clear K;go_wp2_with fail;refine R.o.mono ?_;rintro e w5 ⟨u,es,rfl,M,B,A,P,F⟩;have f:=yK M;clear M;have HP:=yK B;clear B;have HS:=yK A;clear A;have O:Hid (∀ k,u.ownBlock=some k->w.heap.size<=k):=yK λ k e=>yJ H.o.size (F k e);clear F;have X:=yK (H.o.tm P);clear P;go_wp2_with fail;go_ret2;exact⟨u,es,by rw[S.o];rfl,f.o,λ h=>kV S.o h,λ _=>⟨HP.o,HS.o⟩,X.o,O.o⟩
structure LOk (g:List Q) (L:List E):Prop where
 nodup:L.Nodup
 mem:∀ e,e∈L↔∃ q∈g,e∈edgesQ q
theorem lF {g:List Q} {q:Q} {i:Nat} (h:g[i]?=some q):(q,Value.int .i64 i)∈numQ g:=by
 unfold numQ;exact yP.2 ⟨(q,i),List.mem_zipIdx_iff_getElem?.2 h,rfl⟩
theorem bW (g:List Q):(numQ g).map (·.1)=g:=by
 unfold numQ;rw[kl];exact List.zipIdx_map_fst 0 g
theorem fF {g:List E} {q:E} {i:Nat} (h:g[i]?=some q):(q,Value.int .i64 i)∈numE g:=by
 unfold numE;exact yP.2 ⟨(q,i),List.mem_zipIdx_iff_getElem?.2 h,rfl⟩
theorem aF (g:List E):(numE g).map (·.1)=g:=by
 unfold numE;rw[kl];exact List.zipIdx_map_fst 0 g
theorem iy {L:List E} (hn:L.Nodup) (h192:L.length<=192) {n:Nat} {e:E} (h:L[n]?=some e) (P:E->Bool):withW (wordsE P L) n=wordsE (λ x=>P x||decide (x=e)) L:=by
 have I:=(yc.1 h).1;have H:∀ (i j:Nat),i≠j->L[i]?=some e->L[j]?=some e->False:=λ i j hij h1 h2=>by
  obtain⟨K,D⟩:=yc.1 h1;obtain⟨M,C⟩:=yc.1 h2;exact hij ((List.getElem_inj hn).1 (D.trans C.symm))
 have A:∀ (a b:Nat),¬ (a<=n/\n<a+b)->setG (λ x=>P x||decide (x=e)) ((L.drop a).take b)=setG P ((L.drop a).take b):=λ a b hab=>aO λ x hx=>by
  have:x≠e:=by
   rintro rfl;obtain⟨j,G⟩:=yV hx;rw[YU]at G;split at G
   ·rw[kP]at G;exact H n (a+j) (by omega) h G
   cases G
  simp[this]
 have F:∀ (a b:Nat),a<=n->n<a+b->setG P ((L.drop a).take b) ||| (1 <<< (n-a))=setG (λ x=>P x||decide (x=e)) ((L.drop a).take b):=λ a b h1 h2=>by
  have J:((L.drop a).take b)[n-a]?=some e:=by
   rw[YU,Yz (by omega),kP,show a+(n-a)=n by omega];exact h
  rw[mz (((hn.sublist (List.drop_sublist a L))).sublist (List.take_sublist b _)) J,eS]
 unfold withW wordsE;simp only;by_cases h1:n<64
 ·rw[Yz h1];have B:=F 0 64 (by omega) (by omega);have D:=A 64 64 (by omega);have C:=A 128 64 (by omega);simp only[yl,Nat.sub_zero]at B;rw[<- B,<- D,<- C]
 rw[Yy h1];by_cases h2:n<128
 ·rw[Yz h2];have B:=A 0 64 (by omega);have D:=F 64 64 (by omega) (by omega);have C:=A 128 64 (by omega);simp only[yl]at B;rw[B,<- D,C]
 rw[Yy h2];have B:=A 0 64 (by omega);have D:=A 64 64 (by omega);have C:=F 128 64 (by omega) (by omega);simp only[yl]at B;rw[B,D,<- C]
theorem fP {α:Type} [DecidableEq α] {l:List α} {j:Nat} {q:α} (h:l[j]?=some q) (x:α):(decide (x∈l.take j)||decide (x=q))=decide (x∈l.take (j+1)):=by
 rw[zn h,YL];simp
theorem rY {g qs:List Q} (hn:g.Nodup) {j i:Nat} {q:Q} (hj:qs[j]?=some q) (hi:g[i]?=some q):setG (λ r=>decide (r∈qs.take j)) g ||| (1 <<< i)=setG (λ r=>decide (r∈qs.take (j+1))) g:=by
 rw[mz hn hi,eS];exact aO λ r _=>fP hj r
theorem mS {L es:List E} (hn:L.Nodup) (h192:L.length<=192) {j n:Nat} {e:E} (hj:es[j]?=some e) (h:L[n]?=some e):withW (wordsE (λ x=>decide (x∈es.take j)) L) n=wordsE (λ x=>decide (x∈es.take (j+1))) L:=by
 rw[iy hn h192 h];exact ae λ x _=>fP hj x
theorem vS {l g:List Q} (hc:checkN l=0) (hg:∀ q∈g,inQ q) {p:Plc} (hp:p∈placesL l g):checkN (putP l p)=0:=by
 obtain⟨_,A,F⟩:=gH hc hp;obtain⟨h,G,C⟩:=qj hc;have D:∀ q∈l,okS q:=λ q hq=>(h.1 q hq).okS;have B:0<l.length:=List.length_pos_iff.2 G;unfold checkN;rw[Yy (by omega),Yz ⟨⟨λ q hq=>hg q (F q hq),iF _ _ (jT (Srt.nodup h.2) D p.m p.t)⟩,λ e=>by rw[e]at A;simp at A;omega⟩]
structure PieI (w:World) (r p:Nat) (l:Ld) (st:Nat) (b:W3) (wr:World):Prop where
 blk:wr.heap[p]?=some (.cells #[.int .i64 l.kind,.bool l.m,.int .i64 l.t,.int .i64 l.x,.int .i64 l.y,.int .u64 st,.int .u64 b.1,.int .u64 b.2.1,.int .u64 b.2.2] 152 (0,0))
 res:wr.heap[r]?=some (.cells #[.int .i64 0,.bool false,.int .i64 0,.int .i64 0,.int .i64 0,.int .u64 0,.int .u64 0,.int .u64 0,.int .u64 0] 152 (0,0))
 below:Bw w wr
theorem PieI.keep {w:World} {r p:Nat} {l:Ld} {st:Nat} {b:W3} {wr W:World} (h:PieI w r p l st b wr) (e:Bw wr W):PieI w r p l st b W :=
 ⟨(e.block _ (ya.1 h.blk).1).trans h.blk,(e.block _ (ya.1 h.res).1).trans h.res,h.below.tm e⟩
theorem Ak {t:Tk} {L:List E} (hL:LOk t.ground L) (h192:L.length<=192) (h64:t.ground.length<=64) (hgq:checkN t.ground=0) (w:World) (bb:Nat) (bv:BV) (ps:List (List HP)) (bel:W3) (hb:BdAt w bb bv t L ps bel) {k:Nat} {s:List Q} (hk:t.kinds[k]?=some s) (hc:checkN s=0) {p:Plc} (hp:p∈placesL s t.ground) :
  Calls Tryz.prog 88 #[.pointer (some ⟨bb,0,none⟩),.agg #[.int .i64 k,.bool p.m,.int .i64 p.t,.int .i64 p.x,.int .i64 p.y]] w λ e w'=>e=.returned (RP.val (hpT t.ground L (pieceP k s p)))/\Bw w w':=by
 obtain⟨vg,vk,vc,vf,vb,qm,em,pv,F8⟩:=bv;obtain⟨kp,kc,E1⟩:=hb.kinds.slice;simp only at E1;subst E1;obtain⟨m,F,x,y⟩:=p;simp only;have HB:=yK hb;clear hb;obtain⟨hA,hR,hN,A1,B7⟩:=fT (Grew.refl (((w.alloc (.cells #[.int .i64 k,.bool m,.int .i64 F,.int .i64 x,.int .i64 y] 50)).alloc (.cells #[.int .i64 0,.bool false,.int .i64 0,.int .i64 0,.int .i64 0,.int .u64 0,.int .u64 0,.int .u64 0,.int .u64 0] 152)).alloc (.cells #[.int .i64 k,.bool m,.int .i64 F,.int .i64 x,.int .i64 y,.int .u64 0,.int .u64 0,.int .u64 0,.int .u64 0] 152)));go_enter func88,ntmps88;go_wp2_with fail;revert hA hR hN A1 B7;generalize (((w.alloc (.cells #[.int .i64 k,.bool m,.int .i64 F,.int .i64 x,.int .i64 y] 50)).alloc (.cells #[.int .i64 0,.bool false,.int .i64 0,.int .i64 0,.int .i64 0,.int .u64 0,.int .u64 0,.int .u64 0,.int .u64 0] 152)).alloc (.cells #[.int .i64 k,.bool m,.int .i64 F,.int .i64 x,.int .i64 y,.int .u64 0,.int .u64 0,.int .u64 0,.int .u64 0] 152))=W;intro hA hR hN A1 B7;have A3:=HB.o.keep A1;have f:=A3.blk;simp only at f;obtain⟨ka,sv,rfl,D2,A6⟩:=A3.kinds.at hk;obtain⟨sp,sc,rfl⟩:=A6.slice;have C6:=yK A6;clear A6;have b1:W.cell? ⟨bb,1,none⟩=some (.slice (some ka) t.kinds.length kc):=by simp only[World.cell?,f];rfl
 have l0:W.cell? ⟨w.heap.size,0,none⟩=some (.int .i64 k):=by simp only[World.cell?,hA];rfl
 have l1:W.cell? ⟨w.heap.size,1,none⟩=some (.bool m):=by simp only[World.cell?,hA];rfl
 have l2:W.cell? ⟨w.heap.size,2,none⟩=some (.int .i64 F):=by simp only[World.cell?,hA];rfl
 have l3:W.cell? ⟨w.heap.size,3,none⟩=some (.int .i64 x):=by simp only[World.cell?,hA];rfl
 have l4:W.cell? ⟨w.heap.size,4,none⟩=some (.int .i64 y):=by simp only[World.cell?,hA];rfl
 have F1:k<t.kinds.length:=(yc.1 hk).1;have B9:t.kinds.length<=9223372036854775807:=by
  rcases A3.kinds with⟨h,_⟩|⟨_,_,_,_,O,h2,_⟩
  ·cases h
  simp only[maxLen]at h2;omega
 have b:∀ w',Bw W w'->(w'.cell? ⟨bb,1,none⟩=some (.slice (some ka) t.kinds.length kc)/\w'.cell? (ka.add k)=some (.slice sp s.length sc)/\w'.cell? ⟨w.heap.size,0,none⟩=some (.int .i64 k)/\w'.cell? ⟨w.heap.size,1,none⟩=some (.bool m) /\
   w'.cell? ⟨w.heap.size,2,none⟩=some (.int .i64 F)/\w'.cell? ⟨w.heap.size,3,none⟩=some (.int .i64 x)/\w'.cell? ⟨w.heap.size,4,none⟩=some (.int .i64 y))/\Bw W w':=λ w' h=>by
  have hc:∀ (a:Addr) (v:Value),W.cell? a=some v->w'.cell? a=some v:=λ a v hv=>by
   have K:a.block<W.heap.size:=by
    unfold World.cell? at hv
    cases hh:W.heap[a.block]? with
    | none=>rw[hh]at hv;cases hv
    | some o=>exact(ya.1 hh).1
   rw[cell_of_block (h.block _ K)];exact hv
  exact⟨⟨hc _ _ b1,hc _ _ D2,hc _ _ l0,hc _ _ l1,hc _ _ l2,hc _ _ l3,hc _ _ l4⟩,h⟩
 have HK:=yK b;clear b;go_region_held3 (λ w'=>(w'.cell? ⟨bb,1,none⟩=some (.slice (some ka) t.kinds.length kc)/\w'.cell? (ka.add k)=some (.slice sp s.length sc)/\w'.cell? ⟨w.heap.size,0,none⟩=some (.int .i64 k)/\w'.cell? ⟨w.heap.size,1,none⟩=some (.bool m) /\
   w'.cell? ⟨w.heap.size,2,none⟩=some (.int .i64 F)/\w'.cell? ⟨w.heap.size,3,none⟩=some (.int .i64 x)/\w'.cell? ⟨w.heap.size,4,none⟩=some (.int .i64 y))/\Bw W w') (first|exact HK.o _ (by assumption)|exact HK.o _ ((yf _ W).drew))
  (first
   | (go_at_call 16;refine(put_any s (.slice sp s.length sc) m F x y _ (C6.o.below ((yf _ W).drew))).mono ?_;rintro e w' ⟨u,rfl,ho,D0⟩;have A2:Bw W w':=((yf _ W).drew).trans D0))
 have E0:PieI w (w.heap.size+1) (w.heap.size+1+1) ⟨k,m,F,x,y⟩ 0 (0,0,0) w' :=
  ⟨(A2.block _ (ya.1 hN).1).trans hN,(A2.block _ (ya.1 hR).1).trans hR,A1.tm A2⟩
 obtain⟨E7,A4,C1⟩:=cg hc hp k;have E3:Hid (pieceP k s ⟨m,F,x,y⟩=⟨⟨k,m,F,x,y⟩,(putC s m F x y).1⟩):=yK rfl;have r:∀ q∈(putC s m F x y).1,q∈t.ground:=C1;have U:(putC s m F x y).1.length=s.length:=A4;obtain⟨G,B4⟩:∃ G,(putC s m F x y).1=G:=⟨_,rfl⟩;obtain⟨cd,B6⟩:∃ cd,(putC s m F x y).2=cd:=⟨_,rfl⟩;rw[B4]at E3 r U ho;rw[B6];have C3:=(qj hgq).1.2.nodup;have D1:=(qj hgq).1.1;have F5:=(qj hc).2.2;have D7:checkN G=0:=by
  have O:=vS hc (qj hgq).1.1 hp;have h2:(putC s m F x y).1=putP s ⟨m,F,x,y⟩:=E7;rw[<- h2,B4]at O;exact O
 have HO:=yK (qP ho (show W.heap.size<=W.drew.heap.size from ye _));clear ho;obtain⟨up,uc,rfl⟩:=zf HO.o;have F6:=yK E0;clear E0;have B3:=yK r;clear C1 r;have B0:=yK D1;clear D1;have D6:=yK C3;clear C3;have D5:=yK D7;clear D7;have HL:=yK hL;clear hL;have G3:G.length<=400:=by omega
 have G4:=A2.size;clear E7 A4 B4 B6 U F5 D0 hN hR hA l0 l1 l2 l3 l4 b1 D2 HK C6 f A3 F1 B9;go_wp2_with fail;go_loopw [33] (λ z wr=>∃ j:Nat,j<=G.length/\z=.int .i64 j/\Hid (PieI w (w.heap.size+1) (w.heap.size+1+1) ⟨k,m,F,x,y⟩ (setG (λ q=>decide (q∈G.take j)) t.ground) (0,0,0) wr/\OwnQ wr W.heap.size (.slice up G.length uc) G)) (λ z _=>G.length-(intOf z).toNat)
 case atStart=>exact⟨0,by omega,rfl,yK ⟨by
  have e:setG (λ q=>decide (q∈G.take 0)) t.ground=0:=by simp only[yj,ki,decide_false];exact cr _
  rw[e];exact F6.o,HO.o⟩⟩
 case round =>
  obtain⟨j,hj,rfl,P⟩:=hrel;by_cases K:j<G.length
  ·obtain⟨q,hq⟩:∃ q,G[j]?=some q:=⟨_,yb K⟩;obtain⟨i,hi⟩:=yV (B3.o q (yg hq));have C7:i<64:=yO (yc.1 hi).1 h64;obtain⟨xa,rfl,I⟩:∃ xa,up=some xa/\QsAt wr xa G:=by
    rcases P.o.2.has with⟨_,h⟩|⟨a,c,O,_,_,h4⟩
    ·rw[h]at K;simp at K
    simp only[yC]at O;exact⟨a,O.1,h4⟩
   have a0:=I.at0 j q hq;have a1:=I.at1 j q hq;have a2:=I.at2 j q hq;have HS:=yK (rY D6.o hq hi);clear I;obtain⟨qx,qy,g⟩:=q;simp only at a0 a1 a2;go_upto_region 6 with fail;have S:=yd wr (.cells #[.int .i64 qx,.int .i64 qy,.int .i64 g] 56);have J:Bw wr (wr.alloc (.cells #[.int .i64 qx,.int .i64 qy,.int .i64 g] 56)):=(yf _ wr).alloc (ye _) _;revert S J;generalize wr.alloc (.cells #[.int .i64 qx,.int .i64 qy,.int .i64 g] 56)=w1;intro S J;have H:=P.o.1.keep J;have E4:=qf P.o.2 J;have D:=HB.o.keep H.below;have B:=D.blk;have A:=H.blk;simp only at B A;have d0:∀ d:SubW w1,d.1.cell? ⟨w.heap.size+1+1,5,none⟩=some (.int .u64 (setG (λ q=>decide (q∈G.take j)) t.ground)):=λ d=>by simp only[World.cell?,d.block A];rfl
   have d1:∀ d:SubW w1,d.1.cell? ⟨bb,5,none⟩=some (.map (some qm)):=λ d=>by simp only[World.cell?,d.block B];rfl
   have d2:∀ d:SubW w1,d.1.cell? ⟨wr.heap.size,0,none⟩=some (.int .i64 qx):=λ d=>by simp only[World.cell?,d.block S];rfl
   have d3:∀ d:SubW w1,d.1.cell? ⟨wr.heap.size,1,none⟩=some (.int .i64 qy):=λ d=>by simp only[World.cell?,d.block S];rfl
   have d4:∀ d:SubW w1,d.1.cell? ⟨wr.heap.size,2,none⟩=some (.int .i64 g):=λ d=>by simp only[World.cell?,d.block S];rfl
   have d5:∀ d:SubW w1,(Instr.lookup 139 (.map (some qm)) (.agg #[.int .i64 qx,.int .i64 qy,.int .i64 g]) false).run Tryz.prog d.1=.ok (.int .i64 i) d.1:=λ d =>
    zB encQ underlying139 (D.quarter.below d.2) (λ p hp=>B0.o p.1 (by rw[<- bW t.ground];exact yP.2 ⟨p,hp,rfl⟩)) (by rw[bW];exact D6.o) (lF hi) false
   have hs:=gN C7;rw[Int.one_mul]at hs;obtain⟨st,N⟩:∃ st,setG (λ q=>decide (q∈G.take j)) t.ground=st:=⟨_,rfl⟩;have V:st<2 ^ 64:=(by rw[<- N];exact aN h64 _);have ho:=or64 V (ao C7);rw[N]at d0 HS H;have E5:=yK N;clear N V;obtain⟨C5,D9⟩:∃ C5,1 <<< i=C5:=⟨_,rfl⟩;rw[D9]at hs ho HS;clear D9;have F9:(0:Int)<=i:=(by omega);have G1:(i:Int)<=64:=(by omega);have G2:IntKind.i64.wrap (i:Int)=i:=(by rw[IntKind.wrap_i64];omega);have A8:=yK H;clear H;have F4:=yK E4;clear E4;clear B A D S;refine zg 11 (by kernel_rfl) (by kernel_rfl) ?_;simp only[yh,yj,yi,yl]
   repeat(go_big_quiet_step (fail))
   refine wpQuiet_nil ?_;intro dq;have C:=A8.o.keep dq.2;have A7:=qf F4.o dq.2;revert C A7;generalize dq.1=w3;intro C A7;clear d0 d1 d2 d3 d4 d5;have c5:w3.cell? ⟨w.heap.size+1+1,5,none⟩=some (.int .u64 st):=(by have:=C.blk;simp only[World.cell?,this];rfl);have f5:w3.frozen? ⟨w.heap.size+1+1,5,none⟩=false:=frozen_of_row w3 _ 5 _ _ C.blk;go_wp2_with fail
   go_roundw
   case rel =>
    refine⟨j+1,by omega,by go_num,yK ⟨⟨?_,?_,?_⟩,?_⟩⟩
    ·rw[<- HS.o];exact yI _ _ _ _ _ _ C.blk
    ·exact(yq _ _ _ _ (by simp)).trans C.res
    ·exact C.below.setCell (by simp;omega) _
    exact zq A7 (a:=⟨w.heap.size+1+1,5,none⟩) (by simp;omega) _
   case measure=>simp[intOf];omega
  obtain rfl:j=G.length:=by omega
  rw[Yc]at P;have C9:=yK (nQ G _ wr P.o.2.has);go_wp2_with fail;refine C9.o.mono ?_;rintro e w4 ⟨v,M,rfl,B1,_,Z,C8,A5⟩;obtain⟨B2,_⟩:=Z D5.o;have B8:=P.o.1.keep C8;obtain⟨ep,ec,rfl⟩:∃ p c,v=.slice p M.length c:=by
   rcases B1 with⟨rfl,rfl⟩|⟨a,c,rfl,_⟩
   ·exact⟨_,_,rfl⟩
   exact⟨_,_,rfl⟩
  have G0:M.length<=2000:=by
   have O:=fS (l:=G) (qj D5.o).1.1;rw[B2.length_eq];omega
  have E8:=yK B1;clear B1;have E6:=yK B8;clear B8;have C4:=yK B2;clear B2 Z;have D4:Hid (∀ a,ep=some a->a.block≠w.heap.size+1+1):=yK λ a e e'=>by
   have O:=A5 a.block (by rw[e];rfl);have h2:=(ya.1 P.o.1.blk).1;omega
  clear A5;clear C9 P C8;obtain⟨st,N⟩:∃ st,setG (λ q=>decide (q∈G)) t.ground=st:=⟨_,rfl⟩;rw[N]at E6;have E5:=yK N;clear N;go_wp2_with fail;go_loopw [56] (λ z wr=>∃ j:Nat,j<=M.length/\z=.int .i64 j/\Hid (PieI w (w.heap.size+1) (w.heap.size+1+1) ⟨k,m,F,x,y⟩ st (wordsE (λ e=>decide (e∈M.take j)) L) wr/\HasEs wr (.slice ep M.length ec) M)) (λ z _=>M.length-(intOf z).toNat)
  case atStart=>exact⟨0,by omega,rfl,yK ⟨by
   have e:wordsE (λ e=>decide (e∈M.take 0)) L=(0,0,0):=by
    simp only[yj,ki,decide_false];unfold wordsE;simp only[cr]
   rw[e];exact E6.o,E8.o⟩⟩
  obtain⟨j,hj,rfl,P⟩:=hrel;by_cases K:j<M.length
  ·obtain⟨e,he⟩:∃ e,M[j]?=some e:=⟨_,yb K⟩;have E2:e∈borderE G:=C4.o.mem_iff.1 (yg he);obtain⟨q,C0,C2⟩:=iD (λ q hq=>B0.o q (B3.o q hq)) E2;obtain⟨n,hn⟩:=yV ((HL.o.mem e).2 ⟨q,B3.o q C0,C2⟩);have F7:n<192:=yO (yc.1 hn).1 h192;obtain⟨xa,rfl,I⟩:∃ xa,ep=some xa/\EsAt wr xa M:=by
    rcases P.o.2 with⟨_,h⟩|⟨a,c,O,_,_,h4⟩
    ·rw[h]at K;simp at K
    simp only[yC]at O;exact⟨a,O.1,h4⟩
   have a0:=I.at0 j e he;have a1:=I.at1 j e he;have a2:=I.at2 j e he;have HW:=yK (mS HL.o.nodup h192 he hn);obtain⟨X,hX⟩:∃ X,wordsE (λ e=>decide (e∈M.take j)) L=X:=⟨_,rfl⟩;have D3:okW X:=(by rw[<- hX];exact zX _ _);rw[hX]at P HW;obtain⟨Y,hY⟩:∃ Y,withW X n=Y:=⟨_,rfl⟩;have A0:∀ W,Calls Tryz.prog 106 #[w3V X,.int .i64 n] W λ e w'=>e=.returned (w3V Y)/\Bw W w':=λ W=>by
    have:=ig X n D3 F7 W;rwa [hY]at this
   rw[hY]at HW;clear hX hY I E2 C0 C2;obtain⟨x0,x1,x2⟩:=X;obtain⟨y0,y1,y2⟩:=Y;obtain⟨ex,ey,ek⟩:=e;simp only at a0 a1 a2;go_upto_region 12 with fail;have S:=yd wr (.cells #[.int .i64 ex,.int .i64 ey,.int .i64 ek] 61);have J:Bw wr (wr.alloc (.cells #[.int .i64 ex,.int .i64 ey,.int .i64 ek] 61)):=(yf _ wr).alloc (ye _) _;revert S J;generalize wr.alloc (.cells #[.int .i64 ex,.int .i64 ey,.int .i64 ek] 61)=w1;intro S J;have H:=P.o.1.keep J;have D8:=P.o.2.below J;have D:=HB.o.keep H.below;have B:=D.blk;have A:=H.blk;simp only at B A;have d0:∀ d:SubW w1,d.1.cell? ⟨w.heap.size+1+1,6,none⟩=some (.int .u64 x0):=λ d=>by simp only[World.cell?,d.block A];rfl
   have F0:∀ d:SubW w1,d.1.cell? ⟨w.heap.size+1+1,7,none⟩=some (.int .u64 x1):=λ d=>by simp only[World.cell?,d.block A];rfl
   have F3:∀ d:SubW w1,d.1.cell? ⟨w.heap.size+1+1,8,none⟩=some (.int .u64 x2):=λ d=>by simp only[World.cell?,d.block A];rfl
   have d1:∀ d:SubW w1,d.1.cell? ⟨bb,6,none⟩=some (.map (some em)):=λ d=>by simp only[World.cell?,d.block B];rfl
   have d2:∀ d:SubW w1,d.1.cell? ⟨wr.heap.size,0,none⟩=some (.int .i64 ex):=λ d=>by simp only[World.cell?,d.block S];rfl
   have d3:∀ d:SubW w1,d.1.cell? ⟨wr.heap.size,1,none⟩=some (.int .i64 ey):=λ d=>by simp only[World.cell?,d.block S];rfl
   have d4:∀ d:SubW w1,d.1.cell? ⟨wr.heap.size,2,none⟩=some (.int .i64 ek):=λ d=>by simp only[World.cell?,d.block S];rfl
   have d5:∀ d:SubW w1,(Instr.lookup 147 (.map (some em)) (.agg #[.int .i64 ex,.int .i64 ey,.int .i64 ek]) false).run Tryz.prog d.1=.ok (.int .i64 n) d.1:=λ d =>
    zB encE underlying147 (D.edge.below d.2) (λ p hp=>by
     have O:p.1∈L:=(by rw[<- aF L];exact yP.2 ⟨p,hp,rfl⟩);obtain⟨q,hq,he⟩:=(HL.o.mem p.1).1 O;exact an (B0.o q hq) _ he) (by rw[aF];exact HL.o.nodup) (fF hn) false
   have F2:Hid (∀ d:SubW w1,Calls Tryz.prog 106 #[.agg #[.int .u64 x0,.int .u64 x1,.int .u64 x2],.int .i64 n] d.1 λ e w'=>e=.returned (.agg #[.int .u64 y0,.int .u64 y1,.int .u64 y2])/\∃ d':SubW w1,w'=d'.1):=yK λ d=>by
    refine(A0 d.1).mono ?_;rintro e w' ⟨rfl,hb⟩;exact⟨rfl,⟨⟨w',d.2.tm hb⟩,rfl⟩⟩
   have A8:=yK H;clear H;have E9:=yK D8;clear D8;clear B A D S A0 D3;refine zg 10 (by kernel_rfl) (by kernel_rfl) ?_;simp only[yh,yj,yi,yl]
   repeat(go_big_quiet_step ((exact F2.o _)))
   refine wpQuiet_nil ?_;intro dq;have C:=A8.o.keep dq.2;have B5:=E9.o.below dq.2;revert C B5;generalize dq.1=w3;intro C B5;clear d0 F0 F3 d1 d2 d3 d4 d5;have R:=C.blk;simp only at R;have g6:w3.cell? ⟨w.heap.size+1+1,6,none⟩=some (.int .u64 x0):=(by simp only[World.cell?,R];rfl);have g7:w3.cell? ⟨w.heap.size+1+1,7,none⟩=some (.int .u64 x1):=(by simp only[World.cell?,R];rfl);have g8:w3.cell? ⟨w.heap.size+1+1,8,none⟩=some (.int .u64 x2):=(by simp only[World.cell?,R];rfl);have gf:∀ j,w3.frozen? ⟨w.heap.size+1+1,j,none⟩=false:=λ j=>frozen_of_row w3 _ j _ _ R;go_wp2_with fail
   go_roundw
   case rel =>
    refine⟨j+1,by omega,by go_num,yK ⟨⟨?_,?_,?_⟩,?_⟩⟩
    ·rw[<- HW.o];exact yI _ _ _ _ _ _ (yI _ _ _ _ _ _ (yI _ _ _ _ _ _ R))
    ·exact((yq _ _ _ _ (by simp)).trans ((yq _ _ _ _ (by simp)).trans (yq _ _ _ _ (by simp)))).trans C.res
    ·exact((C.below.setCell (by simp;omega) _).setCell (by simp;omega) _).setCell (by simp;omega) _
    have A9:=D4.o xa rfl;have h3:∀ v6 v7 v8:Value,(((w3.setCell ⟨w.heap.size+1+1,6,none⟩ v6).setCell ⟨w.heap.size+1+1,7,none⟩ v7).setCell ⟨w.heap.size+1+1,8,none⟩ v8).heap[xa.block]?=w3.heap[xa.block]?:=λ v6 v7 v8=>(yq _ _ _ _ A9).trans ((yq _ _ _ _ A9).trans (yq _ _ _ _ A9));rcases B5 with⟨h,_⟩|⟨a,c,O,h2,h4,h5⟩
    ·cases h
    simp only[yC,yo]at O;obtain⟨rfl,_,rfl⟩:=O;exact .inr ⟨_,_,rfl,h2,h4,h5.move (h3 _ _ _)⟩
   case measure=>simp[intOf];omega
  obtain rfl:j=M.length:=by omega
  rw[Yc]at P;have hX:wordsE (λ e=>decide (e∈M)) L=wordsE (λ e=>decide (e∈borderE G)) L:=ae λ e _=>by
   rw[kE];exact C4.o.mem_iff
  have T:=P.o.1;have HF:Hid (RP.val (hpT t.ground L ⟨⟨k,m,F,x,y⟩,G⟩)=.agg #[.int .i64 k,.bool m,.int .i64 F,.int .i64 x,.int .i64 y,.int .u64 st,.int .u64 (wordsE (λ e=>decide (e∈M)) L).1,.int .u64 (wordsE (λ e=>decide (e∈M)) L).2.1,.int .u64 (wordsE (λ e=>decide (e∈M)) L).2.2]):=yK (by
   rw[hX,<- E5.o];rfl)
  clear hX;revert T HF;generalize wordsE (λ e=>decide (e∈M)) L=X;intro T HF;go_wp2_with (first
   | (refine Ya rfl 152 _ rfl (w.heap.size+1+1) rfl 152 _ (0,0) _ T.blk underlying152 rfl sizeP ?_)
   | (refine wpList_store_row rfl 152 _ _ rfl (w.heap.size+1) rfl 152 _ #[.int .i64 k,.bool m,.int .i64 F,.int .i64 x,.int .i64 y,.int .u64 st,.int .u64 X.1,.int .u64 X.2.1,.int .u64 X.2.2] rfl T.res sizeP rfl (by simp[Value.oneCell']) ?_))
  refine Yb (bM rfl underlying152 rfl _ _ (w.heap.size+1) _ (0,0) (setRow_heap _ _ _ _ _ _ T.res) sizeP rfl) rfl ?_;refine⟨?_,zi T.below (YE _) _⟩;rw[E3.o,HF.o]
def BbAt (W:World) (bb:Nat) (vg vk vc vf vb:Value) (qm em:Nat) (pv:Value) (b:W3) (al:Nat):Prop :=
 W.heap[bb]?=some (.cells #[vg,vk,vc,vf,vb,.map (some qm),.map (some em),pv,.int .u64 b.1,.int .u64 b.2.1,.int .u64 b.2.2,.int .u64 al] 150 (0,0))
theorem fR {W:World} {p:Option Addr} {n c:Nat} {es:List E} (h:RE.Has W (.slice p n c) es) {j:Nat} {e:E} (he:es[j]?=some e):∃ a,p=some a/\a.block<W.heap.size/\W.cell? (a.add (j*3))=some (.int .i64 e.x)/\W.cell? { block:=(a.add (j*3)).block,off:=(a.add (j*3)).off+1 }=some (.int .i64 e.y)/\W.cell? { block:=(a.add (j*3)).block,off:=(a.add (j*3)).off+2 }=some (.int .i64 e.k):=by
 rcases h with⟨_,h⟩|⟨a,cap,h1,_,_,h4⟩
 ·subst h;simp at he
 simp only[yC]at h1;have ex:∀ (x:Addr) (n:Nat),0<n->x.add n={ block:=x.block,off:=x.off+n }:=λ x n hn=>by unfold Addr.add;rw[Yy (by omega)]
 have C:=h4.at_ j e he 0 (.int .i64 e.x) rfl;have B:=h4.at_ j e he 1 (.int .i64 e.y) rfl;have A:=h4.at_ j e he 2 (.int .i64 e.k) rfl;rw[<- qO,ex _ 1 (by decide)]at B;rw[<- qO,ex _ 2 (by decide)]at A;exact⟨a,h1.1,h4.lt (by rintro rfl;simp at he),C,B,A⟩
theorem Bc {L js:List E} {j:Nat} {e:E} (h:js[j]?=some e) (hno:e∉L):wordsE (λ x=>decide (x∈js.take j)) L=wordsE (λ x=>decide (x∈js.take (j+1))) L :=
 ae λ x hx=>by
  rw[<- fP h x];have:x≠e:=λ e'=>hno (e'▸hx);simp[this]
theorem BelowBut.keep {B bb:Nat} {w W W':World} (h:BelowBut B bb w W) (e:Bw W W') (hB:B<=W.heap.size):BelowBut B bb w W' :=
 ⟨e.os.trans h.os,e.tape.trans h.tape,e.output.trans h.output,yJ h.size e.size,λ k hk hn=>(e.block k (yO hk hB)).trans (h.block k hk hn)⟩
theorem BelowBut.set {B bb:Nat} {w W:World} (h:BelowBut B bb w W) (o:Nat) (v:Value):BelowBut B bb w (W.setCell ⟨bb,o,none⟩ v) :=
 ⟨h.os,h.tape,h.output,by simpa using h.size,λ k hk hne=>(yq _ _ _ _ hne).trans (h.block k hk hne)⟩
theorem ot {L:List E} (hLn:L.Nodup) (hLo:∀ e∈L,okE e) (h192:L.length<=192) (js:List E) (hjo:∀ e∈js,okE e) (hjl:js.length<=1000) (vj:Value) (w:World) (bb:Nat) (vg vk vc vf vb:Value) (qm em:Nat) (pv:Value) (b:W3) (al:Nat)
  (hb:BbAt w bb vg vk vc vf vb qm em pv b al) (hm:HasM E.val w em (numE L)) (hj:RE.Has w vj js) (hjb:js≠[]->∀ k,vj.ownBlock=some k->k≠bb) :
  Calls Tryz.prog 73 #[.pointer (some ⟨bb,0,none⟩),vj] w λ e w'=>(∃ v,e=.returned v)/\BbAt w' bb vg vk vc vf vb qm em pv (wordsE (λ e=>decide (e∈js)) L) al/\BelowBut w.heap.size bb w w':=by
 obtain⟨jp,jc,rfl⟩:=hj.slice;have HB:=yK hb;unfold BbAt at hb;have b8:w.cell? ⟨bb,8,none⟩=some (.int .u64 b.1):=by simp only[World.cell?,hb];rfl
 have b9:w.cell? ⟨bb,9,none⟩=some (.int .u64 b.2.1):=by simp only[World.cell?,hb];rfl
 have A1:w.cell? ⟨bb,10,none⟩=some (.int .u64 b.2.2):=by simp only[World.cell?,hb];rfl
 have bf:∀ j,w.frozen? ⟨bb,j,none⟩=false:=λ j=>frozen_of_row w _ j _ _ hb;go_enter func73,ntmps73;go_wp2_with fail;have K:BbAt (((w.setCell ⟨bb,8,none⟩ (.int .u64 0)).setCell ⟨bb,9,none⟩ (.int .u64 0)).setCell ⟨bb,10,none⟩ (.int .u64 0)) bb vg vk vc vf vb qm em pv (0,0,0) al:=yI _ _ _ _ _ _ (yI _ _ _ _ _ _ (yI _ _ _ _ _ _ hb));have M:BelowBut w.heap.size bb w (((w.setCell ⟨bb,8,none⟩ (.int .u64 0)).setCell ⟨bb,9,none⟩ (.int .u64 0)).setCell ⟨bb,10,none⟩ (.int .u64 0)):=(((BelowBut.refl _ _ _).set 8 _).set 9 _).set 10 _;have A9:=(ya.1 hb).1;have A2:em≠bb:=by
  rintro rfl;unfold HasM at hm;rw[hb]at hm;cases hm
 clear hb b8 b9 A1 bf;revert K M;generalize ((w.setCell ⟨bb,8,none⟩ (.int .u64 0)).setCell ⟨bb,9,none⟩ (.int .u64 0)).setCell ⟨bb,10,none⟩ (.int .u64 0)=w0;intro K M;have HJ:=yK hj;clear hj;have t:=yK hjb;clear hjb;have HM:=yK hm;clear hm;have A5:=yK hLo;clear hLo;have l:=yK hLn;clear hLn;have A7:=yK hjo;clear hjo;have s:=HM.o.lt;go_loopw [14] (λ z wr=>∃ j:Nat,j<=js.length/\z=.int .i64 j/\Hid (BbAt wr bb vg vk vc vf vb qm em pv (wordsE (λ e=>decide (e∈js.take j)) L) al/\BelowBut w.heap.size bb w wr)) (λ z _=>js.length-(intOf z).toNat)
 case atStart=>exact⟨0,by omega,rfl,yK ⟨by
  have e:wordsE (λ e=>decide (e∈js.take 0)) L=(0,0,0):=by simp only[yj,ki,decide_false];unfold wordsE;simp only[cr]
  rw[e];exact K,M⟩⟩
 case round =>
  clear K M;obtain⟨j,hj,rfl,a⟩:=hrel;by_cases hlt:j<js.length
  ·obtain⟨e,q⟩:∃ e,js[j]?=some e:=⟨_,yb hlt⟩;obtain⟨R,rfl,A6,a0,r,a2⟩:=fR HJ.o q;have A3:R.block≠bb:=t.o (by rintro rfl;simp at hlt) _ rfl;have F:∀ y:Addr,y.block=R.block->wr.cell? y=w.cell? y:=λ y hy=>cell_of_block (by rw[hy];exact a.o.2.block _ A6 A3);replace a0:=(F _ (block_add R (j*3))).trans a0;replace r:=(F { block:=(R.add (j*3)).block,off:=(R.add (j*3)).off+1 } (block_add _ _)).trans r;replace a2:=(F { block:=(R.add (j*3)).block,off:=(R.add (j*3)).off+2 } (block_add _ _)).trans a2;clear F;have i:=A7.o e (yg q);have HE:=yK q;clear q;have A0:=yK i;clear i;obtain⟨ex,T,V⟩:=e;simp only at a0 r a2;go_upto_region 4 with fail;have Z:=yd wr (.cells #[.int .i64 ex,.int .i64 T,.int .i64 V] 61);have D:Bw wr (wr.alloc (.cells #[.int .i64 ex,.int .i64 T,.int .i64 V] 61)):=(yf _ wr).alloc (ye _) _;revert Z D;generalize wr.alloc (.cells #[.int .i64 ex,.int .i64 T,.int .i64 V] 61)=w1;intro Z D;have N:=a.o.2.size;have H:BbAt w1 bb vg vk vc vf vb qm em pv (wordsE (λ e=>decide (e∈js.take j)) L) al:=(D.block _ (ya.1 a.o.1).1).trans a.o.1;have I:=a.o.2.keep D (yJ N (ye _));have J:HasM E.val w1 em (numE L):=by
    have h1:=HM.o;unfold HasM at h1 ⊢;rw[I.block em s A2];exact h1
   have C:=H;unfold BbAt at C;have d1:∀ d:SubW w1,d.1.cell? ⟨bb,6,none⟩=some (.map (some em)):=λ d=>by simp only[World.cell?,d.block C];rfl
   have d2:∀ d:SubW w1,d.1.cell? ⟨wr.heap.size,0,none⟩=some (.int .i64 ex):=λ d=>by simp only[World.cell?,d.block Z];rfl
   have d3:∀ d:SubW w1,d.1.cell? ⟨wr.heap.size,1,none⟩=some (.int .i64 T):=λ d=>by simp only[World.cell?,d.block Z];rfl
   have d4:∀ d:SubW w1,d.1.cell? ⟨wr.heap.size,2,none⟩=some (.int .i64 V):=λ d=>by simp only[World.cell?,d.block Z];rfl
   have O:∀ p∈numE L,okE p.1:=λ p hp=>A5.o p.1 (by rw[<- aF L];exact yP.2 ⟨p,hp,rfl⟩);have S:=yK H;clear H C;have c:=yK I;clear I Z;by_cases hin:(⟨ex,T,V⟩:E)∈L
   ·obtain⟨n,m⟩:=yV hin;have A8:n<192:=yO (yc.1 m).1 h192;have d5:∀ d:SubW w1,(Instr.lookup 147 (.map (some em)) (.agg #[.int .i64 ex,.int .i64 T,.int .i64 V]) true).run Tryz.prog d.1=.ok (.tuple #[.int .i64 n,.bool true]) d.1:=λ d =>
     zB encE underlying147 (HasM.below J d.2) O (by rw[aF];exact l.o) (fF m) true
    have f:=yK (mS l.o h192 HE.o m);obtain⟨X,hX⟩:∃ X,wordsE (λ e=>decide (e∈js.take j)) L=X:=⟨_,rfl⟩;have A4:okW X:=(by rw[<- hX];exact zX _ _);rw[hX]at S f;obtain⟨Y,hY⟩:∃ Y,withW X n=Y:=⟨_,rfl⟩;have U:∀ W,Calls Tryz.prog 106 #[w3V X,.int .i64 n] W λ e w'=>e=.returned (w3V Y)/\Bw W w':=λ W=>by
     have:=ig X n A4 A8 W;rwa [hY]at this
    rw[hY]at f;clear hX hY J O m hin;obtain⟨x0,x1,x2⟩:=X;obtain⟨y0,y1,y2⟩:=Y;refine zg 11 (by kernel_rfl) (by kernel_rfl) ?_;simp only[yh,yj,yi,yl]
    repeat(go_big_quiet_step (fail))
    refine wpQuiet_nil ?_;intro dq;have A:BbAt dq.1 bb vg vk vc vf vb qm em pv (x0,x1,x2) al:=dq.block S.o;have B:=c.o.keep dq.2 (yJ N D.size);have P:w.heap.size<=dq.1.heap.size:=yJ (yJ N D.size) dq.2.size;revert A B P;generalize dq.1=w3;intro A B P;clear d1 d2 d3 d4 d5;unfold BbAt at A;have g8:w3.cell? ⟨bb,8,none⟩=some (.int .u64 x0):=(by simp only[World.cell?,A];rfl);have g9:w3.cell? ⟨bb,9,none⟩=some (.int .u64 x1):=(by simp only[World.cell?,A];rfl);have h:w3.cell? ⟨bb,10,none⟩=some (.int .u64 x2):=(by simp only[World.cell?,A];rfl);go_wp2_with fail;refine(U w3).mono ?_;rintro e w4 ⟨rfl,g⟩;have G:=(g.block _ (ya.1 A).1).trans A;have x:=B.keep g P;clear g8 g9 h A B;have g8:w4.cell? ⟨bb,8,none⟩=some (.int .u64 x0):=(by simp only[World.cell?,G];rfl);have g9:w4.cell? ⟨bb,9,none⟩=some (.int .u64 x1):=(by simp only[World.cell?,G];rfl);have h:w4.cell? ⟨bb,10,none⟩=some (.int .u64 x2):=(by simp only[World.cell?,G];rfl);have gf:∀ j,w4.frozen? ⟨bb,j,none⟩=false:=λ j=>frozen_of_row w4 _ j _ _ G;unfold w3V;go_wp2_with fail
    go_roundw
    case rel =>
     refine⟨j+1,by omega,by go_num,yK ⟨?_,((x.set 8 _).set 9 _).set 10 _⟩⟩;rw[<- f.o];exact yI _ _ _ _ _ _ (yI _ _ _ _ _ _ (yI _ _ _ _ _ _ G))
    case measure=>simp[intOf];omega
   have d5:∀ d:SubW w1,(Instr.lookup 147 (.map (some em)) (.agg #[.int .i64 ex,.int .i64 T,.int .i64 V]) true).run Tryz.prog d.1=.ok (.tuple #[.int .i64 0,.bool false]) d.1:=λ d =>
    zN encE underlying147 (zeroValue3 _) (HasM.below J d.2) O A0.o (λ p hp e=>hin (by rw[<- aF L];exact yP.2 ⟨p,hp,e⟩)) true
   have f:=yK (Bc HE.o hin);clear J O hin;refine zg 11 (by kernel_rfl) (by kernel_rfl) ?_;simp only[yh,yj,yi,yl]
   repeat(go_big_quiet_step (fail))
   refine wpQuiet_nil ?_;intro dq;have A:BbAt dq.1 bb vg vk vc vf vb qm em pv (wordsE (λ e=>decide (e∈js.take j)) L) al:=dq.block S.o;have B:=c.o.keep dq.2 (yJ N D.size);revert A B;generalize dq.1=w3;intro A B;clear d1 d2 d3 d4 d5;go_wp2_with fail
   go_roundw
   case rel=>exact⟨j+1,by omega,by go_num,yK ⟨by rw[<- f.o];exact A,B⟩⟩
   case measure=>simp[intOf];omega
  obtain rfl:j=js.length:=by omega
  have hr:=a.o;rw[Yc]at hr;go_wp2_with fail
  go_end0
  exact⟨⟨_,rfl⟩,hr⟩
