/- Beside Count: the ways as a slice of slices of numbers; what the key asks of a way. -/
import Derived.Test.YtiinlplgloaanaaGreatDoorZzLayerOver39
set_option linter.all false
set_option maxRecDepth 100000
set_option maxHeartbeats 8000000
namespace Go.Proofs.YtiinlplgloaanaaGreatDoor
open Go.Proofs.Tryz Go.RowKit
attribute [local go_sem] Oper.semAt_some
theorem qbm {P:Program} {w:World} {ops:Array Oper} {rest:List Oper} {o:Oper} {a:Act} {Q:Exit->Act->World->Prop} (hgd:o.guard=none) {T e:TypeId} (x:Operand) (ho:o.op=.buildSlice T 1 #[(0,x)]) {u:Value} (hx:a.eval x=u) {ie:TypeInfo} {z:Value} {cells:Array Value}
  (hu:P.underlying T=some (.slice e)) (hie:P.info? e=some ie) (hz:ie.zero=some z) (hsmall:¬ 1*ie.size > 2 ^ 24) (hpos:¬ 1*ie.size=0)
  (hf:Instr.fill (λ i=>some (i*ie.size,ie.size)) ((Array.range (1*ie.size)).map (z.cells[· % z.cells.size]!)) [(0,u)]=some cells)
  (h:wpList P ops Q rest (a.put o.dst (.slice (some ⟨w.heap.size,0,none⟩) 1 1)) (w.alloc (.cells cells e))):wpList P ops Q (o :: rest) a w:=by
 refine wpList_plain hgd λ K hK=>?_;unfold Oper.wp execOp;simp only[ho,yG];rw[run_buildSlice w T e 1 _ cells ie z hu hie hz hsmall hpos (by simpa[hx]using hf)];simp only[yz,yH];exact hK _ _ h
theorem qeG {t:Tk} {p r:Pc} (hp:p∈(piecesT t).flatten) (hr:r∈(piecesT t).flatten) (h:p.ld=r.ld):p=r:=by
 obtain⟨k,s,pl,h1,h2,rfl⟩:=zah hp;obtain⟨k',s',pl',h1',h2',rfl⟩:=zah hr;obtain⟨m,tt,x,y⟩:=pl;obtain⟨m',tt',x',y'⟩:=pl';unfold pieceP at h;simp only[Ld.mk.injEq]at h;obtain⟨e0,e1,e2,e3,e4⟩:=h;have e0':k=k':=by omega
 subst e0';rw[h1]at h1'
 cases h1'
 unfold pieceP;simp only at e1 e2 e3 e4 ⊢;subst e1;rw[e2,e3,e4]
theorem qdC {t:Tk} {p:Pc} (hp:p∈(piecesT t).flatten):findT t p.ld=some p:=by
 obtain⟨k,s,pl,h1,h2,rfl⟩:=zah hp;have hk:((pieceP k s pl).ld.kind)=k:=rfl;have hkl:=(yc.1 h1).1;unfold findT;rw[hk,YA ⟨by omega,by omega⟩,Int.toNat_natCast,yu,zbt h1,Yw];have hin:pieceP k s pl∈piecesK t.ground k s:=by unfold piecesK;exact yP.2 ⟨pl,h2,rfl⟩
 cases hf:(piecesK t.ground k s).find? (λ q=>decide (q.ld=(pieceP k s pl).ld))with
 | none =>
  have:=List.find?_eq_none.1 hf _ hin;simp at this
 | some r =>
  have h3:r.ld=(pieceP k s pl).ld:=by simpa using List.find?_some hf
  have h4:=List.mem_of_find?_eq_some hf;have h5:r∈(piecesT t).flatten:=List.mem_flatten.2 ⟨_,yg (zbt h1),h4⟩;rw[qeG h5 hp h3]
theorem zex {W:World} {A:Nat} {cs:Array Value} {T:TypeId} (h:W.heap[A]?=some (.cells cs T (0,0))) (i j k:Nat) (x y z:Value):(((W.setCell ⟨A,i,none⟩ x).setCell ⟨A,j,none⟩ y).setCell ⟨A,k,none⟩ z).heap[A]?=some (.cells (((cs.setIfInBounds i x).setIfInBounds j y).setIfInBounds k z) T (0,0)) :=
 yI _ _ _ _ _ _ (yI _ _ _ _ _ _ (yI _ _ _ _ _ _ h))
theorem qd0 (W:World) {A k:Nat} (h:k≠A) (a b c:Nat) (x y z:Value):(((W.setCell ⟨A,a,none⟩ x).setCell ⟨A,b,none⟩ y).setCell ⟨A,c,none⟩ z).heap[k]?=W.heap[k]? :=
 (yq _ _ _ _ h).trans ((yq _ _ _ _ h).trans (yq _ _ _ _ h))
theorem qd3 {w W:World} {B A:Nat} (h:Below B w W) (hA:B<=A) (a b c:Nat) (x y z:Value):Below B w (((W.setCell ⟨A,a,none⟩ x).setCell ⟨A,b,none⟩ y).setCell ⟨A,c,none⟩ z) :=
 ((h.setCell (p:=⟨A,a,none⟩) hA x).setCell (p:=⟨A,b,none⟩) hA y).setCell (p:=⟨A,c,none⟩) hA z
theorem zeJ {W:World} {base:Nat} {e:TypeId} {size:Nat} {v:Value} {n:Nat} {xs:List Value} (h:W.ownsRow base e size v n xs) {A:Nat} (hA:A<base) (a b c:Nat) (x y z:Value):(((W.setCell ⟨A,a,none⟩ x).setCell ⟨A,b,none⟩ y).setCell ⟨A,c,none⟩ z).ownsRow base e size v n xs :=
 zq (zq (zq h (a:=⟨A,a,none⟩) hA x) (a:=⟨A,b,none⟩) hA y) (a:=⟨A,c,none⟩) hA z
theorem zO {fn:Func} {p q:Tmp} {T U:TypeId} (h:fn.results=#[.cell p T,.cell q U]) {d d':TypeDesc} (hu:Tryz.prog.underlying T=some d) (hd:d.isRow=true) (hu':Tryz.prog.underlying U=some d') (hd':d'.isRow=true) (tmps:Array Value) (w:World) (b b':Nat) (cs cs':Array Value) (fr fr':Nat × Nat)
  (hg:w.heap[b]?=some (.cells cs T fr)) (hi:(Tryz.prog.info? T).map (·.size)=some cs.size) (hg':w.heap[b']?=some (.cells cs' U fr')) (hi':(Tryz.prog.info? U).map (·.size)=some cs'.size) (hp:tmps.getD p undef=.pointer (some ⟨b,0,none⟩)) (hq:tmps.getD q undef=.pointer (some ⟨b',0,none⟩)) :
  (results fn tmps).run Tryz.prog w=.ok (.tuple #[.agg cs,.agg cs']) w:=by
 have B:tmps[p]?.getD undef=.pointer (some ⟨b,0,none⟩):=by simpa using hp
 have A:tmps[q]?.getD undef=.pointer (some ⟨b',0,none⟩):=by simpa using hq
 have e2:=run_loadVar_row (P:=Tryz.prog) w b T T cs fr d hg hu (by cases d <;> simp_all) hi
 have e3:=run_loadVar_row (P:=Tryz.prog) w b' U U cs' fr' d' hg' hu' (by cases d' <;> simp_all) hi'
 simp[results,h,B,A,asAddr,e2,e3]
def stC (st b0 b1 b2 j0 j1 j2:Nat) (mn:Nat->Nat):HS:=⟨none,0,0,st,(b0,b1,b2),(j0,j1,j2),mn⟩
theorem qbb {fn:Func} {p q r:Tmp} {T:TypeId} (h:fn.results=#[.tmp p,.cell q T,.tmp r]) {d:TypeDesc} (hu:Tryz.prog.underlying T=some d) (hd:d.isRow=true) (tmps:Array Value) (w:World) (b:Nat) (cs:Array Value) (fr:Nat × Nat) (y z:Value)
  (hg:w.heap[b]?=some (.cells cs T fr)) (hi:(Tryz.prog.info? T).map (·.size)=some cs.size) (hp:tmps.getD p undef=y) (hq:tmps.getD q undef=.pointer (some ⟨b,0,none⟩)) (hr:tmps.getD r undef=z):(results fn tmps).run Tryz.prog w=.ok (.tuple #[y,.agg cs,z]) w:=by
 have C:tmps[p]?.getD undef=y:=by simpa using hp
 have B:tmps[q]?.getD undef=.pointer (some ⟨b,0,none⟩):=by simpa using hq
 have A:tmps[r]?.getD undef=z:=by simpa using hr
 have e2:=run_loadVar_row (P:=Tryz.prog) w b T T cs fr d hg hu (by cases d <;> simp_all) hi
 simp[results,h,C,B,A,asAddr,e2]
theorem zbS {fn:Func} {p q r:Tmp} (h:fn.results=#[.tmp p,.tmp q,.tmp r]) (tmps:Array Value) (w:World) (x y z:Value) (hp:tmps.getD p undef=x) (hq:tmps.getD q undef=y) (hr:tmps.getD r undef=z):(results fn tmps).run Tryz.prog w=.ok (.tuple #[x,y,z]) w:=by
 have hp':tmps[p]?.getD undef=x:=by simpa using hp
 have hq':tmps[q]?.getD undef=y:=by simpa using hq
 have hr':tmps[r]?.getD undef=z:=by simpa using hr
 simp[results,h,hp',hq',hr']
theorem zaQ {P:Program} {w:World} {ops:Array Oper} {rest:List Oper} {o:Oper} {a:Act} {Q:Exit->Act->World->Prop} (hgd:o.guard=none) (ty ty2:TypeId) (x y:Operand)
  (ho:o.op=.binOp .neq ty x y ty2) {xs ys:Array Value} (hx:a.eval x=.agg xs) (hy:a.eval y=.agg ys) (hm:P.eqGuardType P.depth ty=false) {b:Bool} (he:(Op.equalIn 10000 ty (.agg xs) (.agg ys)).run P w=.ok b w) (h:wpList P ops Q rest (a.put o.dst (.bool (!b))) w) :
  wpList P ops Q (o :: rest) a w:=by
 refine wpList_plain hgd λ K hK=>?_;unfold Oper.wp execOp;simp only[ho,hx,hy,yG,run_eqGuard_agg (hm:=hm),yz,run_neq_struct,he,yH];exact hK _ _ h
theorem qP (w:World) (o1 o2:Obj):((w.alloc o1).alloc o2).heap[w.heap.size]?=some o1/\((w.alloc o1).alloc o2).heap[w.heap.size+1]?=some o2/\Bw w ((w.alloc o1).alloc o2) :=
 ⟨heapO _ (yd w o1),zay _ _ _,((yf _ w).alloc (ye _) _).alloc (by simp) _⟩
theorem zeM (ax ay ak bx b_y bk:Int) (w:World) :
  Calls Tryz.prog 45 #[.agg #[.int .i64 ax,.int .i64 ay,.int .i64 ak],.agg #[.int .i64 bx,.int .i64 b_y,.int .i64 bk]] w λ e w' =>
   e=.returned (.int .i64 (orL [cmpI ay b_y,cmpI ax bx,cmpI ak bk]))/\Grew w w':=by
 go_enter func45,ntmps45;go_wp2;go_region_held3 (λ w'=>w'.cell? ⟨w.heap.size,0,none⟩=some (.int .i64 ax)/\w'.cell? ⟨w.heap.size,1,none⟩=some (.int .i64 ay)/\w'.cell? ⟨w.heap.size,2,none⟩=some (.int .i64 ak) /\
   w'.cell? ⟨w.heap.size+1,0,none⟩=some (.int .i64 bx)/\w'.cell? ⟨w.heap.size+1,1,none⟩=some (.int .i64 b_y)/\w'.cell? ⟨w.heap.size+1,2,none⟩=some (.int .i64 bk)) (first|go_keep|simp)
  (first
   | (go_at_call 93;refine (zaN _ _ _).mono ?_;rintro e w' ⟨rfl,rfl⟩)
   | (go_at_call 99;refine Calls.mono (qcd (w.heap.size+1+1) 3 (cmpI ay b_y) (cmpI ax bx) (cmpI ak bk) _ ?_ ?_ ?_) ?_;go_simp;go_simp;go_simp;rintro e w' ⟨rfl,rfl⟩))
 go_wp2;go_ret;exact⟨rfl,((((Grew.refl w).alloc _).alloc _).alloc _).drew⟩
theorem zgj (base g cap:Nat) (es:List E) (W:World) (hq:OwnEd W base (.slice (some ⟨g,0,none⟩) es.length cap) es) (hbase:base<=W.heap.size) (hn:es.length<=1000000) :
  Calls Tryz.prog 107 #[.slice (some ⟨g,0,none⟩) es.length cap,.func (.func 45) #[] #[]] W λ e W' =>
   e=.returned (.tuple #[])/\∃ es',es'.Perm es/\es'.Pairwise (λ a b=>¬ ltE b a)/\HasEs W' (.slice (some ⟨g,0,none⟩) es'.length cap) es'/\es'.length=es.length/\Below base W W':=by
 obtain⟨hg,D⟩:=hq.lt g rfl;have L:∀ j,W.frozen? ⟨g,j,none⟩=false:=λ j=>by
  rcases hq.2 with⟨h,_⟩|⟨g',cap',cur,hv,_,h2,_⟩
  ·cases h
  simp only[yC,yo,Addr.mk.injEq,and_true]at hv;obtain⟨rfl,_⟩:=hv;exact frozen_of_row W _ j _ _ h2
 have hH:Sort.HoldsK eVals 3 W g 0 es.toArray:=λ j hj=>by
  rw[Sort.size_flatK]at hj;obtain⟨e,he,hf⟩:=flat_get es.toArray j hj;rw[hf,Nat.zero_add];refine⟨?_,L j⟩;have:=hq.cells (g:=g) rfl j _ (zdp (by simpa using he));rwa [zJ]at this
 have G:CmpLays Tryz.prog 45 #[] eVals 3 cmpE g 0 es.toArray.size W:=λ m os dk _ x y=>zeM x.x x.y x.k y.x y.y y.k _;have C:=AnyQ.slices_SortFunc Tryz.sortE 3 isAgg61 sizeOf61 eVals (λ _=>rfl) (λ x v hv=>by simp[eVals]at hv;rcases hv with rfl|rfl|rfl <;> rfl) cmpE qeU 45 #[] g 0 cap es.toArray W (enters_of func45 (by kernel_rfl) rfl) G hH D (by simp;omega)
 rw[show es.toArray.size=es.length by simp]at C;change Calls Tryz.prog 107 _ _ _ at C;refine C.mono ?_;rintro e W' ⟨rfl,d',nn,os,hp,hs,rfl⟩;have A:d'.size=es.length:=by simpa using hp.1
 have F:d'.toList.Perm es:=by
  have:=hp.2.2;rw[show d'.extract 0 es.length=d' by rw[<- A];simp,show es.toArray.extract 0 es.length=es.toArray by simp]at this;simpa using this
 have K:=holdsK_sortWorldK_c (α:=E) eVals 3 W g 0 es.toArray d' nn os hH D (by simpa using A);refine⟨rfl,d'.toList,F,?_,?_,by simpa using A,⟨rfl,rfl,rfl,size_sortWorldK_c eVals 3 W g 0 nn d' os,λ k hk=>qax eVals 3 W g 0 nn d' os (by omega) (by omega)⟩⟩
 ·rw[List.pairwise_iff_getElem];intro i j hi hj hij;have J:i<d'.size:=by simpa using hi
  have H:j<d'.size:=by simpa using hj
  have:=hs i j (YC _) hij (by rw[<- A];exact H);rw[getElem!_pos d' i J,getElem!_pos d' j H]at this;have:=of_decide_eq_false this;intro I;exact this (qas.2 (by simpa using I))
 ·rcases hq.2 with⟨h,_⟩|⟨g',cap',cur,hv,_,h2,h3,h4,_⟩
  ·cases h
  simp only[yC,yo,Addr.mk.injEq,and_true]at hv;obtain⟨rfl,_,rfl⟩:=hv;have B:∀ (i r:Nat) (q:E) (v:Value),d'.toList[i]?=some q->r<3->(eVals q)[r]?=some v->(sortWorldK eVals 3 W g 0 nn d' os).cell? ⟨g,i*3+r,none⟩=some v:=λ i r q v hq' hr hv=>by
   have hi:i<d'.size:=(by have:=(yc.1 hq').1;simpa using this);have hj:i*3+r<d'.size*3:=(by omega);have h:=(K (i*3+r) (by rw[Sort.size_flatK];exact hj)).1;rw[Nat.zero_add]at h;obtain⟨e,he,hf⟩:=flat_get d' (i*3+r) hj;rw[hf]at h;rw[show (i*3+r) / 3=i by omega,hq']at he
   cases he
   rw[show (i*3+r) % 3=r by omega,hv]at h;exact h
  refine .inr ⟨_,cap,rfl,by simpa[A]using h3,h4,?_,λ i q hq'=>?_,λ i q hq'=>?_,λ i q hq'=>?_⟩
  ·show g<_;exact yO D (size_sortWorldK_c eVals 3 W g 0 nn d' os)
  ·rw[zJ];exact B i 0 q _ hq' (by omega) rfl
  ·rw[zJ];exact B i 1 q _ hq' (by omega) rfl
  rw[zJ];exact B i 2 q _ hq' (by omega) rfl
def pickN (M:List (E × Nat)) (p:Nat->Bool) (done:List Nat):List E:=done.filterMap λ i=>match M[i]? with|some m=>if p m.2 then some m.1 else none|none=>none
theorem qdk {M:List (E × Nat)} {p:Nat->Bool} {done:List Nat} {i:Nat} {m:E × Nat} (h:M[i]?=some m):pickN M p (done++[i])=pickN M p done++(if p m.2 then [m.1]else []):=by
 simp only[pickN,List.filterMap_append,List.filterMap_cons,List.filterMap_nil,h]
 cases p m.2 <;> simp
theorem zgE (M:List (E × Nat)) (p:Nat->Bool) {done:List Nat} (h:done.Perm (List.range M.length)):(pickN M p done).Perm ((M.filter (λ m=>p m.2)).map (·.1)):=by
 have h1:(pickN M p done).Perm (pickN M p (List.range M.length)):=h.filterMap _;refine h1.trans (List.Perm.of_eq ?_);clear h1 h done;have A:∀ (L:List (E × Nat)) (k:Nat),(∀ i,L[i]?=M[k+i]?)->(List.range' k L.length).filterMap (λ i=>match M[i]? with|some m=>if p m.2 then some m.1 else none|none=>none)=(L.filter (λ m=>p m.2)).map (·.1):=by
  intro L
  induction L with
  | nil=>intro k _;rfl
  | cons a L ih =>
   intro k hk;have h0:=hk 0;rw[Nat.add_zero,List.getElem?_cons_zero]at h0;have h1:=ih (k+1) (λ i=>by have:=hk (i+1);rw[List.getElem?_cons_succ]at this;rw[this];congr 1;omega);rw[yA,List.range'_succ,List.filterMap_cons,<- h0,List.filter_cons];simp only;by_cases hp:p a.2=true
   ·rw[YA hp,YA hp,yM,h1]
   rw[Yz hp,Yz hp,h1]
 rw[pickN,List.range_eq_range'];exact A M 0 (λ i=>by rw[Nat.zero_add])
theorem zet (M:List (E × Nat)) (p:Nat->Bool) (done:List Nat):(pickN M p done).length<=done.length:=List.length_filterMap_le _ _
theorem qef {L:List E} (hn:L.Nodup) (h192:L.length<=192) {n:Nat} {e:E} (h:L[n]?=some e):withW (0,0,0) n=wordsE (λ x=>decide (x=e)) L:=by
 have h0:wordsE (λ _=>false) L=(0,0,0):=(qbf h192).2 λ _ _=>rfl;rw[<- h0,zcW hn h192 h];rfl
theorem zcO {L:List E} (hn:L.Nodup) (h192:L.length<=192) {n:Nat} {e:E} (h:L[n]?=some e) (P:E->Bool):(andW (wordsE P L) (withW (0,0,0) n)=(0,0,0))↔P e=false:=by
 rw[qef hn h192 h,qa5,qbf h192];constructor
 ·intro hh;have:=hh e (yg h);simpa using this
 intro hp x _;by_cases hx:x=e
 ·subst hx;simp[hp]
 simp[hx]
theorem qhw {L:List E} {i:Nat} {p:E × Value} (h:(numE L)[i]?=some p):∃ e,L[i]?=some e/\p=(e,.int .i64 i):=by
 unfold numE at h;rw[yQ,List.getElem?_zipIdx]at h
 cases he:L[i]? with
 | none=>rw[he]at h;simp at h
 | some e=>rw[he]at h;simp at h;exact⟨e,rfl,h.symm⟩
def pIx (L:List E) (P:E->Bool) (i:Nat):Bool:=match L[i]? with|some e=>P e|none=>false
theorem qh0 (L:List E) (P:E->Bool):((L.zipIdx.filter λ m=>pIx L P m.2).map (·.1))=L.filter P:=by
 have h1:L.zipIdx.filter (λ m=>pIx L P m.2)=L.zipIdx.filter (λ m=>P m.1):=List.filter_congr λ m hm=>by
  have:=List.mem_zipIdx_iff_getElem?.1 hm;unfold pIx;rw[this]
 rw[h1];have h2:=List.filter_map (p:=P) (f:=λ m:E × Nat=>m.1) (l:=L.zipIdx);rw[List.zipIdx_map_fst]at h2;exact h2.symm
theorem qf8 {L:List E} (hn:L.Nodup) (h192:L.length<=192) (P:E->Bool) (w:World) (bb em:Nat) (hc:w.cell? ⟨bb,6,none⟩=some (.map (some em))) (hm:HasM E.val w em (numE L)) :
  Calls Tryz.prog 55 #[.pointer (some ⟨bb,0,none⟩),w3V (wordsE P L)] w λ e w'=>∃ v es,e=.returned v/\HasEs w' v es/\es.Perm (L.filter P)/\es.Pairwise (λ a b=>¬ ltE b a)/\Bw w w':=by
 have A3:okW (wordsE P L):=zY _ _;have A8:=yK (λ n e (h:L[n]?=some e)=>zcO hn h192 h P);have C2:∀ (B:Obj),(w.alloc B).cell? ⟨bb,6,none⟩=some (.map (some em)):=λ B=>by
  have hb:bb<w.heap.size:=by
   unfold World.cell? at hc;simp only at hc
   cases h:w.heap[bb]? with
   | none=>rw[h]at hc;cases hc
   | some o=>exact (ya.1 h).1
  simp only[World.cell?]at hc ⊢;rw[Below.heap_alloc w B bb hb];exact hc
 obtain⟨X,hX⟩:∃ X,wordsE P L=X:=⟨_,rfl⟩;have HX:=yK hX;rw[hX]at A3 ⊢;clear hX;obtain⟨x0,x1,x2⟩:=X;unfold w3V;simp only;have F:=hm.alloc (.cells #[.int .u64 x0,.int .u64 x1,.int .u64 x2] 105);have B4:=C2 (.cells #[.int .u64 x0,.int .u64 x1,.int .u64 x2] 105);have T:Bw w (w.alloc (.cells #[.int .u64 x0,.int .u64 x1,.int .u64 x2] 105)):=(yf _ w).alloc (ye _) _;have t:=yd w (.cells #[.int .u64 x0,.int .u64 x1,.int .u64 x2] 105);have O:(w.alloc (.cells #[.int .u64 x0,.int .u64 x1,.int .u64 x2] 105)).heap.size=w.heap.size+1:=yp _ _;go_enter func55,ntmps55;go_upto_region 1 with fail;clear hc hm C2;revert F B4 T t O;change _->_->_->_->_->Code.wp _ _ _ _ (w.alloc (.cells #[.int .u64 x0,.int .u64 x1,.int .u64 x2] 105));generalize w.alloc (.cells #[.int .u64 x0,.int .u64 x1,.int .u64 x2] 105)=w1;intro F B4 T t O;have y:=qbU (P:=Tryz.prog) underlying147 F;go_wp2;clear y;have C:=HasIter.start w1 em (numE L).length;have B3:(numE L).length=L.length:=by unfold numE;simp
 rw[B3]at C;have I:=F.alloc (.mapIter (some em) L.length #[] L.length);have V:=heapO (.mapIter (some em) L.length #[] L.length) t;have B1:Bw w (w1.alloc (.mapIter (some em) L.length #[] L.length)):=T.alloc T.size _;have C4:(w1.alloc (.mapIter (some em) L.length #[] L.length)).heap.size=w.heap.size+2:=by rw[yp,O]
 rw[O]at C;clear F B4 t T;revert C I V B1 C4;simp only[B3,O];generalize w1.alloc (.mapIter (some em) L.length #[] L.length)=W0;intro C I V B1 C4;have F8:em<w.heap.size+2:=by have:=I.lt;omega
 have E3:em≠w.heap.size+1:=by
  rintro rfl;unfold HasM HasIter at *;rw[I]at C;cases C
 have F9:em≠w.heap.size:=by
  rintro rfl;unfold HasM at I;rw[I]at V;cases V
 go_loopw [4] (λ v wr=>∃ (done:List Nat) (es:List E),Hid (HasIter wr (w.heap.size+1) em L.length done/\HasM E.val wr em (numE L)/\done.Nodup/\(∀ i∈done,i<L.length)/\OwnEd wr (w.heap.size+2) v es/\es=pickN L.zipIdx (pIx L P) done/\Bw w wr/\w.heap.size+2<=wr.heap.size/\wr.heap[w.heap.size]?=some (.cells #[.int .u64 x0,.int .u64 x1,.int .u64 x2] 105 (0,0)))) (λ _ wr=>L.length-doneOf wr (w.heap.size+1))
 case atStart=>exact⟨[],[],yK ⟨C,I,by simp,by simp,World.ownsRow_nil _ _ _ 3,rfl,B1,by omega,V⟩⟩
 case round =>
  obtain⟨done,es,HR⟩:=hrel;obtain⟨C,l,B6,B5,hq,B2,hB,F3,E1⟩:=HR.o;obtain⟨p',c',rfl⟩:=zf hq;have E5:done.length<=L.length:=nodup_lt_length _ _ B6 B5;have G3:es.length<=done.length:=by rw[B2];exact zet _ _ _
  have D5:=yK C.done;clear HR;have HQ:=yK hq;clear hq;have A9:=yK B2;clear B2;have HD:=yK B6;clear B6;have D9:=yK B5;clear B5;have F7:=yK E1;clear E1;rw[<- B3]at C;go_wp2_with (first
   | (at_next;refine zbl rfl _ rfl rfl C l ?_ ?_)
   | go_in)
  ·intro A1;have h1:done.Perm (List.range L.length):=(List.perm_ext_iff_of_nodup HD.o List.nodup_range).2 (λ i=>⟨λ h=>by simpa using D9.o i h,λ h=>A1 i (by simpa using h)⟩);have HP:Hid (es.Perm (L.filter P)):=yK (by rw[A9.o,<- qh0 L P];exact zgE L.zipIdx (pIx L P) (by simpa using h1));clear A1 h1;by_cases he0:es=[]
   ·subst he0;have B0:=yK (λ W=>AnyF.slices_SortFunc_none { Tryz.sortE with } p' c' (.func (.func 45) #[] #[]) W);go_wp2_with fail;refine Calls.mono (show Calls Tryz.prog 107 _ _ _ from B0.o _) ?_;rintro e w2 ⟨rfl,rfl⟩;go_wp2_with fail;go_ret;refine⟨_,[],rfl,?_,HP.o,by simp,hB⟩;show HasEs w2 (.slice p' ([]:List E).length c') [];rcases HQ.o.2 with⟨hn,_⟩|⟨g,cap,cur,hn,_,h2,h3,h4,_⟩
    ·exact .inl ⟨hn,rfl⟩
    rw[hn];refine .inr ⟨_,cap,rfl,h3,h4,?_,?_,?_,?_⟩
    ·exact (ya.1 h2).1
    all_goals (intro i q hq;simp at hq)
   obtain⟨g,rfl⟩:∃ g,p'=some ⟨g,0,none⟩:=by
    rcases HQ.o.2 with⟨_,h0⟩|⟨g,cap,cur,hv,_⟩
    ·exact absurd (yT.1 h0) he0
    simp only[yC]at hv;exact⟨g,hv.1⟩
   have HS:=yK (zgj (w.heap.size+2) g c' es _ HQ.o F3 (by omega));clear he0;go_wp2_with fail;refine HS.o.mono ?_;rintro e w2 ⟨rfl,B7,C8,C0,E4,p,E9⟩;have F2:=hB.trans (E9.mono (by omega));have HF:Hid (HasEs w2 (.slice (some ⟨g,0,none⟩) es.length c') B7/\B7.Perm (L.filter P)/\B7.Pairwise (λ a b=>¬ ltE b a)):=yK ⟨by rw[<- p];exact E4,C8.trans HP.o,C0⟩;clear C8 C0 E4 p HS;go_wp2_with fail;go_ret;exact⟨_,_,rfl,HF.o.1,HF.o.2.1,HF.o.2.2,F2⟩
  intro i x xv w1 hpe hnew hit1 hgr hsz1 hen;obtain⟨e,he,C1⟩:=qhw hpe;simp only[Prod.mk.injEq]at C1;obtain⟨rfl,rfl⟩:=C1;have hi:i<L.length:=(yc.1 he).1;clear hpe;have D3:Bw w w1:=(hB.grown hgr hB.size (λ j hj=>by cases hj;exact YF _));have F:=l.grown hgr (by intro e;cases e;exact E3 rfl);have B9:w1.heap[w.heap.size]?=_:=(hgr.block w.heap.size (by omega) (by simp)).trans F7.o;have D7:OwnEd w1 (w.heap.size+2) (.slice p' es.length c') es:=HQ.o.kept hgr (by
   by_cases hv:(Value.slice p' es.length c').ownBlock=none
   ·exact .inl hv
   exact .inr (λ e'=>by have:=(HQ.o.lt _ e').1;omega))
  have A5:w.heap.size+2<=w1.heap.size:=by omega
  clear hgr hsz1 l hB C;have C9:=yK F;clear F;have B8:=yK D7;clear D7;have A6:=yK hit1;clear hit1;have N:=yK B9;clear B9;have HE:=yK he;clear he;obtain⟨ex,ey,ek⟩:=x;unfold E.val at hen;go_upto_region 4 with fail;have c:(w1.alloc (.cells #[.int .i64 ex,.int .i64 ey,.int .i64 ek] 61)).heap[w1.heap.size]?=some (.cells #[.int .i64 ex,.int .i64 ey,.int .i64 ek] 61 (0,0)):=yd w1 _;have G:Bw w1 (w1.alloc (.cells #[.int .i64 ex,.int .i64 ey,.int .i64 ek] 61)):=Below.alloc (yf _ w1) (ye _) _;have H:=(G.block _ (ya.1 N.o).1).trans N.o;revert c G H;generalize w1.alloc (.cells #[.int .i64 ex,.int .i64 ey,.int .i64 ek] 61)=w2;intro c G H;have z:=yK G;clear G;have a0:∀ d:SubW w2,d.1.cell? ⟨w.heap.size,0,none⟩=some (.int .u64 x0):=λ d=>by simp[World.cell?,d.block H]
  have a1:∀ d:SubW w2,d.1.cell? ⟨w.heap.size,1,none⟩=some (.int .u64 x1):=λ d=>by simp[World.cell?,d.block H]
  have a2:∀ d:SubW w2,d.1.cell? ⟨w.heap.size,2,none⟩=some (.int .u64 x2):=λ d=>by simp[World.cell?,d.block H]
  have m:i<192:=by omega
  obtain⟨⟨y0,y1,y2⟩,hY⟩:∃ Y,withW (0,0,0) i=Y:=⟨_,rfl⟩;obtain⟨⟨z0,z1,z2⟩,hZ⟩:∃ Z,andW (x0,x1,x2) (y0,y1,y2)=Z:=⟨_,rfl⟩;have A0:okW (y0,y1,y2):=by rw[<- hY];exact qel (x:=(0,0,0)) ⟨by decide,by decide,by decide⟩ m
  have D4:Hid (∀ d:SubW w2,Calls Tryz.prog 106 #[.agg #[.int .u64 0,.int .u64 0,.int .u64 0],.int .i64 i] d.1 λ e w'=>e=.returned (.agg #[.int .u64 y0,.int .u64 y1,.int .u64 y2])/\∃ d':SubW w2,w'=d'.1):=yK λ d=>by
   have:=qcf (0,0,0) i ⟨by decide,by decide,by decide⟩ m d.1;rw[hY]at this;refine this.mono ?_;rintro e w' ⟨rfl,hb⟩;exact⟨rfl,⟨w',d.2.tm hb⟩,rfl⟩
  have D2:Hid (∀ d:SubW w2,Calls Tryz.prog 75 #[.agg #[.int .u64 x0,.int .u64 x1,.int .u64 x2],.agg #[.int .u64 y0,.int .u64 y1,.int .u64 y2]] d.1 λ e w'=>e=.returned (.agg #[.int .u64 z0,.int .u64 z1,.int .u64 z2])/\∃ d':SubW w2,w'=d'.1):=yK λ d=>by
   have:=zdm (x0,x1,x2) (y0,y1,y2) A3 A0 d;rw[hZ]at this;exact this
  have C6:Hid (((z0,z1,z2):W3)=(0,0,0)↔P ⟨ex,ey,ek⟩=false):=yK (by rw[<- hZ,<- hY,<- HX.o];exact A8.o i _ HE.o);have C7:Hid (L.zipIdx[i]?=some ((⟨ex,ey,ek⟩:E),i)):=yK (by rw[List.getElem?_zipIdx,HE.o];simp);have C3:Hid (pIx L P i=P ⟨ex,ey,ek⟩):=yK (by unfold pIx;rw[HE.o]);clear hY hZ A0;have M:Hid ((done++[i]).Nodup/\∀ j∈done++[i],j<L.length):=yK ⟨by
    rw[List.nodup_append];exact⟨HD.o,by simp,λ a ha b hb e=>hnew (by rw[yU.1 hb]at e;rw[<- e];exact ha)⟩,λ j hj=>by
    rcases yY.1 hj with h|h
    ·exact D9.o j h
    ·rw[yU.1 h];exact hi⟩
  have G0:done.length+1<=L.length:=by
   have:=nodup_lt_length L.length (done++[i]) M.o.1 M.o.2;simpa using this
  cases hp:P ⟨ex,ey,ek⟩with
  | false =>
   have f:((z0,z1,z2):W3)=(0,0,0):=C6.o.2 hp;have r:∀ d:SubW w2,(Op.equalIn 10000 105 (.agg #[.int .u64 z0,.int .u64 z1,.int .u64 z2]) (.agg #[.int .u64 0,.int .u64 0,.int .u64 0])).run Tryz.prog d.1=.ok true d.1:=λ d=>(qbv (z0,z1,z2) (0,0,0) d.1).trans (by rw[yw f]);clear f;have R:Hid (es=pickN L.zipIdx (pIx L P) (done++[i])):=yK (by rw[qdk C7.o,A9.o];simp[C3.o,hp]);clear hp;refine zg 7 (by kernel_rfl) (by kernel_rfl) ?_;simp only[yh,yj,yi,yl]
   repeat (go_big_quiet_step ((first|exact D4.o _|exact D2.o _)))
   refine wpQuiet_nil ?_;intro dq;have A:=z.o.tm dq.2;clear r a0 a1 a2 c H;revert A;generalize dq.1=w3;intro A;have J:=yK (A6.o.below A);have A2:doneOf w3 (w.heap.size+1)=done.length+1:=(by rw[J.o.done];simp);have C5:=yK A2;clear A2;have s:=yK A;clear A;go_wp2_with fail
   go_roundw
   case rel=>exact⟨done++[i],es,yK ⟨J.o,C9.o.below s.o,M.o.1,M.o.2,qf B8.o s.o,R.o,D3.tm s.o,yJ A5 s.o.size,(s.o.block _ (ya.1 N.o).1).trans N.o⟩⟩
   rw[C5.o,D5.o];omega
  | true =>
   have f:¬ ((z0,z1,z2):W3)=(0,0,0):=λ h=>by have:=C6.o.1 h;rw[hp]at this;cases this
   have r:∀ d:SubW w2,(Op.equalIn 10000 105 (.agg #[.int .u64 z0,.int .u64 z1,.int .u64 z2]) (.agg #[.int .u64 0,.int .u64 0,.int .u64 0])).run Tryz.prog d.1=.ok false d.1:=λ d=>(qbv (z0,z1,z2) (0,0,0) d.1).trans (by rw[yv f]);clear f;have R:Hid (es++[⟨ex,ey,ek⟩]=pickN L.zipIdx (pIx L P) (done++[i])):=yK (by rw[qdk C7.o,A9.o];simp[C3.o,hp]);clear hp;refine zg 7 (by kernel_rfl) (by kernel_rfl) ?_;simp only[yh,yj,yi,yl]
   repeat (go_big_quiet_step ((first|exact D4.o _|exact D2.o _)))
   refine wpQuiet_nil ?_;intro dq;have A:=z.o.tm dq.2;have D:=dq.block c;clear r a0 a1 a2 c H;revert A D;generalize dq.1=w3;intro A D;have J:=yK (A6.o.below A);have E8:=yK (C9.o.below A);have F1:=yK ((A.block _ (ya.1 N.o).1).trans N.o);have D1:=yK (qf B8.o A);have D6:w.heap.size+2<=w3.heap.size:=yJ A5 A.size;have A4:=D3.tm A;have d0:w3.cell? ⟨w1.heap.size,0,none⟩=some (.int .i64 ex):=(by simp[World.cell?,D]);have d1:w3.cell? ⟨w1.heap.size,1,none⟩=some (.int .i64 ey):=(by simp[World.cell?,D]);have d2:w3.cell? ⟨w1.heap.size,2,none⟩=some (.int .i64 ek):=(by simp[World.cell?,D]);clear A D;have D0:Hid (es.length+1<=maxLen):=yK (by simp only[maxLen];omega);have D8:Hid ((es.length+1)*24<=140737488355328):=yK (by omega);obtain⟨iE,F4,F5,E6,F0⟩:=info_parts infoE;go_wp2_with (first
    | (at_builtin;refine wpList_append_own _ rfl _ _ 32 rfl (w.heap.size+2) 61 iE _ 3 24 underlying32 F4 F5 E6 F0 rfl (by decide) (.slice p' es.length c') es.length (eCells es) rfl (D1.o.alloc _) ⟨w3.heap.size,0,none⟩ 1 1 (eVals ⟨ex,ey,ek⟩) rfl rfl (zcY ⟨ex,ey,ek⟩) (qbl _) D0.o D8.o (by rw[yp];omega) ?_;intro v' w4 hown' hgrow _;obtain⟨G2,G1,rfl⟩:=zf hown'))
   have U:w3.grownBy w4 (Value.slice p' es.length c').ownBlock:=⟨hgrow.os,hgrow.tape,hgrow.output,yJ (by simp) hgrow.size,λ k hk hne=>(hgrow.block k (by simp;omega) hne).trans (Below.heap_alloc _ _ _ hk)⟩;have K:∀ k,(Value.slice p' es.length c').ownBlock=some k->w.heap.size+2<=k:=λ k hk=>(D1.o.lt k hk).1;have S:HasIter w4 (w.heap.size+1) em L.length (done++[i]):=J.o.grown U (λ e=>by have:=K _ e.symm;omega);have F6:=yK (E8.o.grown U (λ e=>by have:=K _ e.symm;omega));have E7:=yK ((U.block w.heap.size (by omega) (λ e=>by have:=K _ e.symm;omega)).trans F1.o);have A7:doneOf w4 (w.heap.size+1)=done.length+1:=(by rw[S.done];simp);have E2:=yK A7;clear A7;have E0:=yK S;clear S
   go_roundw
   case rel=>exact⟨done++[i],es++[⟨ex,ey,ek⟩],yK ⟨E0.o,F6.o,M.o.1,M.o.2,qb8 hown',R.o,A4.grown U A4.size (λ k hk=>by have:=K k hk;omega),yJ D6 U.size,E7.o⟩⟩
   rw[E2.o,D5.o];omega
def digS:ByteArray:=⟨#[48,49,50,51,52,53,54,55,56,57,97,98,99,100,101,102,103,104,105,106,107,108,109,110,111,112,113,114,115,116,117,118,119,120,121,122]⟩
theorem qcP {n:Nat} (hn:n<36) (W:World):(Instr.index 9 (.string digS) (.int .u64 (n:Int))).run Tryz.prog W=.ok (.int .u8 ((zak n).toNat:Nat)) W:=by
 rcases (by omega:n=0\/n=1\/n=2\/n=3\/n=4\/n=5\/n=6\/n=7\/n=8\/n=9\/n=10\/n=11\/n=12\/n=13\/n=14\/n=15\/n=16\/n=17\/n=18\/n=19\/n=20\/n=21\/n=22\/n=23\/n=24\/n=25\/n=26\/n=27\/n=28\/n=29\/n=30\/n=31\/n=32\/n=33\/n=34\/n=35)with rfl|rfl|rfl|rfl|rfl|rfl|rfl|rfl|rfl|rfl|rfl|rfl|rfl|rfl|rfl|rfl|rfl|rfl|rfl|rfl|rfl|rfl|rfl|rfl|rfl|rfl|rfl|rfl|rfl|rfl|rfl|rfl|rfl|rfl|rfl|rfl <;> kernel_rfl
theorem zh0 (w:World):Calls Tryz.prog 201 #[.int .i64 36] w λ e w'=>e=.returned (.bool false)/\w'=w:=by
 go_enter func201,ntmps201;go_wp2_with fail
 first
  | exact⟨rfl,rfl⟩
  | (go_ret;exact⟨rfl,rfl⟩)
def BufAt (W:World) (b i:Nat) (T:TypeId) (d:List UInt8):Prop:=∃ cs:Array Value,W.heap[b]?=some (.cells cs T (0,0))/\cs.size=65/\i+d.length=65/\cs.toList.drop i=d.map λ x=>.int .u8 x.toNat
theorem BufAt.store {W:World} {b i:Nat} {T:TypeId} {d:List UInt8} (h:BufAt W b (i+1) T d) (x:UInt8):BufAt (W.setCell ⟨b,i,none⟩ (.int .u8 x.toNat)) b i T (x :: d):=by
 obtain⟨cs,h1,h2,h3,h4⟩:=h;refine⟨cs.setIfInBounds i (.int .u8 x.toNat),yI W b i _ _ _ h1,by simpa using h2,by simp;omega,?_⟩;have hi:i<cs.toList.length:=by rw[Array.length_toList];omega
 rw[Array.toList_setIfInBounds,List.drop_set,Yz (by omega),Nat.sub_self,List.drop_eq_getElem_cons hi,yF,h4];rfl
theorem BufAt.cell {W:World} {b i:Nat} {T:TypeId} {d:List UInt8} (h:BufAt W b i T d) {j:Nat} (hj:j<65):(∃ u,W.cell? ⟨b,j,none⟩=some u)/\W.frozen? ⟨b,j,none⟩=false:=by
 obtain⟨cs,h1,h2,_⟩:=h;refine⟨⟨cs[j]'(by omega),?_⟩,frozen_of_row W b j _ _ h1⟩;simp only[World.cell?,h1];simp[yD (show j<cs.size by omega)]
theorem BufAt.get {W:World} {b i:Nat} {T:TypeId} {d:List UInt8} (h:BufAt W b i T d) (j:Nat) (hj:j<d.length):W.cell? ((⟨b,i,none⟩:Addr).add j)=some (.int .u8 (d[j].toNat:Int)):=by
 obtain⟨cs,h1,h2,h3,h4⟩:=h;have e:((⟨b,i,none⟩:Addr).add j)=⟨b,i+j,none⟩:=by
  unfold Addr.add;by_cases h:j=0
  ·subst h;rfl
  rw[Yz h]
 rw[e];simp only[World.cell?,h1];have h5:(cs.toList.drop i)[j]?=some (.int .u8 (d[j].toNat:Int)):=by rw[h4,yQ,yb hj];rfl
 rw[List.getElem?_drop,Yq]at h5;exact h5
theorem qfX (b i:Nat) (hi:i<65) (W:World):(Instr.sliceAt 276 (.pointer (some ⟨b,0,none⟩)) (some (.int .i64 (i:Int))) none none).run Tryz.prog W=.ok (.slice (some ⟨b,i,none⟩) (65-i) (65-i)) W:=by
 have hl:Tryz.prog.arrayLen 276=65:=by kernel_rfl
 have he:Tryz.prog.elem 276=5:=by kernel_rfl
 rw[run_sliceAt_array_l W 276 ⟨b,0,none⟩ (by rw[hl,he];exact underlying276) .i64 (i:Int) (by omega) (by rw[hl];omega),he,hl,sizeOf5];have h1:¬ (65=i):=by omega
 simp only[Result.andThen,slicedAt,Int.toNat_natCast,Yz h1,Nat.mul_one];unfold Addr.add;by_cases h:i=0
 ·subst h;rfl
 rw[Yz h];simp
theorem zii {n:Nat} {f:Nat} {l:List UInt8} (h:36<=n):fmtB 36 (f+1) n l=fmtB 36 f (n / 36) (zak (n % 36) :: l):=by
 show (if n<36 then _ else _)=_;rw[Yz (by omega)]
theorem zh9 {n:Nat} {f:Nat} {l:List UInt8} (h:n<36):fmtB 36 (f+1) n l=zak n :: l:=by
 show (if n<36 then _ else _)=_;rw[YA h]
theorem qeN (n:Nat) (hn:n<2 ^ 64) (w:World):Calls Tryz.prog 166 #[.slice none 0 0,.int .u64 n,.int .i64 36,.bool false,.bool false] w λ e w'=>e=.returned (.tuple #[.slice none 0 0,.string ⟨(za5 n).toArray⟩])/\Bw w w':=by
 go_enter func166,ntmps166;go_wp2_with (refine (zh0 _).mono ?_;rintro e w' ⟨rfl,rfl⟩);generalize F:World.alloc w _=w1;obtain⟨T,D⟩:∃ T,BufAt w1 w.heap.size 65 T []:=by
  rw[<- F];exact⟨_,_,yd w _,rfl,rfl,rfl⟩
 have K:Bw w w1:=by
  rw[<- F];exact (yf _ w).alloc (ye _) _
 clear F;have H0:Hid (BufAt w1 w.heap.size 65 T []/\fmtB 36 64 n []=za5 n/\n<2 ^ (64-5*([]:List UInt8).length)/\Bw w w1):=yK ⟨D,rfl,hn,K⟩;clear D K;go_loopw [1,13] (λ u z wr=>∃ (d m:Nat) (B:List UInt8),B.length=d/\d<=12/\u=.int .u64 m/\z=.int .i64 (65-d:Nat)/\Hid (BufAt wr w.heap.size (65-d) T B/\fmtB 36 (64-d) m B=za5 n/\m<2 ^ (64-5*d)/\Bw w wr)) (λ u _ _=>(intOf u).toNat)
 case atStart=>exact⟨0,n,[],rfl,by omega,rfl,rfl,H0⟩
 clear H0;obtain⟨d,m,B,J,hd,rfl,rfl,HR⟩:=hrel;have N:m<2 ^ 64:=yO HR.o.2.2.1 (Nat.pow_le_pow_right (by decide) (by omega));by_cases hge:36<=m
 ·have O:d<=11:=by
   rcases Nat.lt_or_ge d 12 with h|h
   ·omega
   obtain rfl:d=12:=(by omega);have:=HR.o.2.2.1;omega
  have hp:2 ^ (64-5*d)=2 ^ (64-5*(d+1))*32:=by
   rw[show 64-5*d=64-5*(d+1)+5 by omega,Nat.pow_add]
  have L:Hid (m / 36<2 ^ (64-5*(d+1))):=yK (by
   have:=HR.o.2.2.1;rw[hp]at this;omega)
  clear hp;obtain⟨i,hi⟩:∃ i,65-d=i+1:=⟨64-d,by omega⟩;have A:=HR.o.1;rw[hi]at A ⊢;have G:=yK (A.store (zak (m % 36)));obtain⟨⟨u0,c0⟩,f0⟩:=A.cell (j:=i) (by omega);have H:(Instr.index 9 (.string digS) (.int .u64 ((m:Int)-(m:Int) / 36*36))).run Tryz.prog wr=.ok (.int .u8 ((zak (m % 36)).toNat:Nat)) wr:=by
   rw[show ((m:Int)-(m:Int) / 36*36)=((m % 36:Nat):Int)by omega];exact qcP (Nat.mod_lt _ (by decide)) wr
  unfold digS at H;clear A;go_wp2_with fail;refine⟨⟨d+1,m / 36,zak (m % 36) :: B,by simp[J],by omega,by rw[Int.natCast_ediv];rfl,by rw[show 65-(d+1)=i by omega],yK ⟨?_,?_,L.o,HR.o.2.2.2.setCell (by simp) _⟩⟩,?_⟩
  ·rw[show 65-(d+1)=i by omega];exact G.o
  ·have h1:=HR.o.2.1;rw[show 64-d=64-(d+1)+1 by omega,zii hge]at h1;exact h1
  simp only[intOf];omega
 obtain⟨i,hi⟩:∃ i,65-d=i+1:=⟨64-d,by omega⟩;have A:=HR.o.1;rw[hi]at A ⊢;have G:=yK (A.store (zak m));have HF:Hid (za5 n=zak m :: B):=yK (by
  have h1:=HR.o.2.1;rw[show 64-d=63-d+1 by omega,zh9 (by omega)]at h1;exact h1.symm)
 obtain⟨⟨u0,c0⟩,f0⟩:=A.cell (j:=i) (by omega);have H:(Instr.index 9 (.string digS) (.int .u64 (m:Int))).run Tryz.prog wr=.ok (.int .u8 ((zak m).toNat:Nat)) wr:=qcP (by omega) wr;unfold digS at H;clear A;have R:=λ W=>qfX w.heap.size i (by omega) W;have C:(zak m :: B).length=65-i:=by rw[yA,J];omega
 have M:=run_convert_bytes_back (P:=Tryz.prog) (wr.setCell ⟨w.heap.size,i,none⟩ (.int .u8 (zak m).toNat)) 37 9 5 ⟨w.heap.size,i,none⟩ (65-i) (zak m :: B) underlying37 underlying5 underlying9 G.o.get;rw[C]at M;clear C;have I:=yK HR.o.2.2.2;go_wp2_with fail
 first
  | (go_ret2;exact⟨by rw[HF.o];rfl,I.o.setCell (by simp) _⟩)
  | exact⟨by rw[HF.o];rfl,I.o.setCell (by simp) _⟩
theorem zgo (n:Nat) (hn:n<2 ^ 64) (w:World):Calls Tryz.prog 127 #[.int .u64 n,.int .i64 36] w λ e w'=>e=.returned (.string ⟨(za5 n).toArray⟩)/\Bw w w':=by
 have H:=yK (qeN n hn w);go_enter func127,ntmps127;go_wp2_with fail;refine H.o.mono ?_;rintro e w' ⟨rfl,hB⟩;have HB:=yK hB;clear hB H;go_wp2_with fail
 first
  | exact⟨rfl,HB.o⟩
  | (go_ret;exact⟨rfl,HB.o⟩)
theorem zhg (n:Nat) (hn:n<2 ^ 64) (w:World):Calls Tryz.prog 95 #[.int .u64 n,.int .i64 36] w λ e w'=>e=.returned (.string ⟨(za5 n).toArray⟩)/\Bw w w':=by
 have H:=yK (zgo n hn w);go_enter func95,ntmps95;go_wp2_with fail;refine H.o.mono ?_;rintro e w' ⟨rfl,hB⟩;have HB:=yK hB;clear hB H;go_wp2_with fail
 first
  | exact⟨rfl,HB.o⟩
  | (go_ret;exact⟨rfl,HB.o⟩)
theorem zdI:∀ a b:List UInt8,ltB a b=true↔a<b
 | [],[]=>by simp[ltB]
 | _ :: _,[]=>by simp[ltB]
 | [],_ :: _=>by simp[ltB]
 | x :: a,y :: b=>by
  have ih:=zdI a b;unfold ltB;rw[List.cons_lt_cons_iff];by_cases h1:x<y
  ·simp[h1]
  by_cases h2:y<x
  ·rw[Yz h1,YA h2];simp only[Yo,false_iff,not_or,not_and];exact⟨h1,λ e _=>absurd h2 (by subst e;exact UInt8.lt_irrefl _)⟩
  have e:x=y:=UInt8.le_antisymm (UInt8.not_lt.1 h2) (UInt8.not_lt.1 h1);rw[Yz h1,Yz h2,ih];simp[h1,e]
theorem zcQ {x:List UInt8}:∀ {l:List (List UInt8)},l.Pairwise (λ a b=>a<=b)->(insB x l).Pairwise λ a b=>a<=b
 | [],_=>by simp[insB]
 | y :: l,h=>by
  unfold insB;split
  ·rename_i hlt;have hxy:x<y:=(zdI x y).1 hlt;refine List.Pairwise.cons (λ z hz=>?_) h;rcases Ye.1 hz with rfl|hz
   ·exact List.le_of_lt hxy
   exact List.le_trans (List.le_of_lt hxy) ((List.pairwise_cons.1 h).1 z hz)
  rename_i hlt;have hyx:y<=x:=List.not_lt.1 λ hh=>hlt ((zdI x y).2 hh);refine List.Pairwise.cons (λ z hz=>?_) (zcQ (List.pairwise_cons.1 h).2);rcases Ye.1 ((qcy x l).mem_iff.1 hz)with rfl|hz
  ·exact hyx
  exact (List.pairwise_cons.1 h).1 z hz
theorem qct:∀ l:List (List UInt8),(sortB l).Pairwise λ a b=>a<=b
 | []=>List.Pairwise.nil
 | x :: l=>zcQ (qct l)
theorem zfD (l:List (List UInt8)):l.mergeSort (λ x y=>decide (x<=y))=sortB l:=by
 have hp:(l.mergeSort (λ x y=>decide (x<=y))).Perm (sortB l):=(List.mergeSort_perm _ _).trans (zaw l).symm;have hs:(l.mergeSort (λ x y=>decide (x<=y))).Pairwise λ a b=>decide (a<=b)=true:=List.pairwise_mergeSort (λ a b c h1 h2=>by
  simp only[yS]at *;exact List.le_trans h1 h2) (λ a b=>by
  simp only[Bool.or_eq_true,yS];exact List.le_total a b) l
 refine hp.eq_of_pairwise (le:=λ a b=>a<=b) (λ a b _ _ h1 h2=>List.le_antisymm h1 h2) (hs.imp λ h=>of_decide_eq_true h) (qct l)
theorem qdM:∀ l:List (List UInt8),Lib.join l [32]=joinB l
 | []=>rfl
 | [x]=>by simp[Lib.join,joinB]
 | x :: y :: l=>by
  have ih:=qdM (y :: l);simp only[Lib.join,joinB]at *
  first
   | rw[<- ih];simp
   | simp_all
theorem qil:∀ i,i<100->Lib.decDigits i=fmt10 i:=by decide +kernel
def txtV (s:List UInt8):Value:=.string ⟨s.toArray⟩
def okTx (s:List UInt8):Prop:=s.length<=100000
theorem encS:KeyEnc Tryz.prog 9 txtV okTx where
 law:=WideMaps.string_law underlying9
 key s h:=⟨_,WideMaps.keyOf_string_mk underlying9 (s:=⟨s.toArray⟩) (by
  show s.toArray.size<=maxLen;unfold okTx at h;simp only[List.size_toArray,maxLen];omega)⟩
 inj x y _ _ h:=by
  unfold txtV at h;simp only[Value.string.injEq,ByteArray.mk.injEq]at h;simpa using h
theorem qbF (b:Nat):∀ (f n:Nat) (l:List UInt8),(fmtB b f n l).length<=f+l.length
 | 0,_,l=>by simp[fmtB]
 | f+1,n,l=>by
  unfold fmtB;split
  ·simp only[yA];omega
  have:=qbF b f (n / b) (zak (n % b) :: l);simp only[yA]at this;omega
theorem qdW (g:List Q) (tw:List Nat) (p:Pc):(wordT g tw p).length<=129:=by
 have h1:=qbF 36 64 (setTo g tw p) [];have h2:=qbF 10 64 p.ld.kind.toNat [];unfold wordT za5 fmt10;rw[yL,yA];simp only[yN]at h1 h2;omega
theorem qcu {n:Nat}:∀ {l:List (List UInt8)},(∀ x∈l,x.length<=n)->(joinB l).length<=(n+1)*l.length
 | [],_=>by simp[joinB]
 | [x],h=>by
  have:=h x (by simp);simp only[joinB,yA,yN];omega
 | x :: y :: l,h=>by
  have h1:=h x (by simp);have h2:=qcu (n:=n) (l:=y :: l) λ z hz=>h z (Yn _ hz);have e:(n+1)*(l.length+1+1)=(n+1)*(l.length+1)+(n+1):=Nat.mul_succ _ _;simp only[joinB,yL,yA]at h2 ⊢;rw[e];omega
theorem qfs (g:List Q) (tw:List Nat) {T:List Pc} (h:T.length<=64):okTx (keyT g tw T):=by
 unfold okTx keyT;have h1:=qcu (n:=129) (l:=sortB (T.map (wordT g tw))) λ x hx=>by
  obtain⟨p,_,rfl⟩:=yP.1 ((zaw _).mem_iff.1 hx);exact qdW g tw p
 rw[(zaw _).length_eq,yB]at h1;omega
def RT:REnc (List UInt8):=⟨9,1,λ s=>[.string ⟨s.toArray⟩],λ _=>rfl,λ s u h=>by simp at h;subst h;rfl⟩
def setJ (g:List Q) (tw:List Nat) (p:Pc) (j:Nat):Nat:=(((g.zip tw).take j).filter λ x=>decide (x.1∈p.qs)).foldl (λ n x=>n ||| (1 <<< x.2)) 0
theorem zgd {g:List Q} {tw:List Nat} {p:Pc} {j:Nat} {q:Q} {x:Nat} (hq:g[j]?=some q) (hx:tw[j]?=some x):setJ g tw p (j+1)=if q∈p.qs then setJ g tw p j ||| 1 <<< x else setJ g tw p j:=by
 have hz:(g.zip tw)[j]?=some (q,x):=by rw[List.getElem?_zip_eq_some];exact⟨hq,hx⟩
 unfold setJ;rw[zl hz,List.filter_append,List.foldl_append];by_cases h:q∈p.qs
 ·rw[YA h,List.filter_cons_of_pos (by simpa using h)];rfl
 rw[Yz h,List.filter_cons_of_neg (by simpa using h)];rfl
theorem qhp {g:List Q} {tw:List Nat} {p:Pc} {j:Nat} (h:g.length<=j):setJ g tw p j=setTo g tw p:=by
 unfold setJ setTo;rw[List.take_of_length_le (by rw[List.length_zip];omega)]
theorem zfo {g:List Q} {tw:List Nat} {p:Pc} (h:∀ x∈tw,x<64) (j:Nat):setJ g tw p j<2 ^ 64:=by
 unfold setJ;have key:∀ (l:List (Q × Nat)) (n:Nat),(∀ x∈l,x.2<64)->n<2 ^ 64->l.foldl (λ n x=>n ||| (1 <<< x.2)) n<2 ^ 64:=by
  intro l
  induction l with
  | nil=>intro n _ hn;exact hn
  | cons a l ih =>
   intro n hl hn;rw[Yv];refine ih _ (λ x hx=>hl x (Yn _ hx)) (Nat.or_lt_two_pow hn ?_);rw[Nat.one_shiftLeft];exact Nat.pow_lt_pow_right (by decide) (hl a (by simp))
 refine key _ 0 (λ x hx=>?_) (by decide);have h1:=(List.mem_filter.1 hx).1;have h2:=Yy h1;exact h _ (List.of_mem_zip h2).2
theorem zh4 {n:Nat} (h:n<2 ^ 64) (i:Nat):bits .and .u64 ((n:Int) / 2 ^ i) 1=((if n.testBit i then 1 else 0:Nat):Int):=by
 have e:((n:Int) / 2 ^ i)=((n / 2 ^ i:Nat):Int):=by norm_cast
 have h1:n / 2 ^ i<2 ^ 64:=Nat.lt_of_le_of_lt (Nat.div_le_self _ _) h;have h2:=zbP h1 (show 1<2 ^ 64 by decide);rw[e];rw[show (1:Int)=((1:Nat):Int)from rfl,h2,Nat.and_one_is_mod,Nat.testBit_eq_decide_div_mod_eq];rcases (by omega:n / 2 ^ i % 2=0\/n / 2 ^ i % 2=1)with h|h <;> rw[h] <;> rfl
theorem or_bit {n x:Nat} (hn:n<2 ^ 64) (hx:x<64) (b:Bool):bits .or .u64 (n:Int) (IntKind.u64.wrap (((if b then 1 else 0:Nat):Int)*2 ^ x))=((if b then n ||| 1 <<< x else n:Nat):Int):=by
 have hp:2 ^ x<2 ^ 64:=Nat.pow_lt_pow_right (by decide) hx
 cases b with
 | false =>
  have h0:=or64 hn (show 0<2 ^ 64 by decide);simp only[Yo,if_false,Nat.or_zero]at h0 ⊢;rw[show IntKind.u64.wrap (((0:Nat):Int)*2 ^ x)=((0:Nat):Int)by rw[IntKind.wrap_u64];simp];exact h0
 | true =>
  have h0:=or64 hn hp;simp only[if_true];rw[Nat.one_shiftLeft,show IntKind.u64.wrap (((1:Nat):Int)*2 ^ x)=((2 ^ x:Nat):Int)by
   rw[show (((1:Nat):Int)*2 ^ x)=((2 ^ x:Nat):Int)by norm_cast;omega]
   exact (λ (y:Nat) (hy:y<2 ^ 64)=>(by rw[IntKind.wrap_u64];omega:IntKind.u64.wrap (y:Int)=(y:Int))) _ hp]
  exact h0
theorem zfP (a b:List UInt8):(⟨a.toArray⟩:ByteArray)++⟨b.toArray⟩=⟨(a++b).toArray⟩:=by simp[ByteArray.mk_append_mk]
theorem zft {P:Program} {next:Value->World->Prop} {o:Oper} {x y:Operand} {T T2:TypeId} (hop:o.op=.binOp .add T x y T2) {b:Act} {W:World} {m n:List UInt8} (hx:b.eval x=.string ⟨m.toArray⟩) (hy:b.eval y=.string ⟨n.toArray⟩) (hl:m.length+n.length<=9223372036854775807)
  (hn:next (.string ⟨(m++n).toArray⟩) W):loudUpon P next ((execOp b.eval o).run P W):=by
 refine zV (W':=W) (v:=.string ⟨(m++n).toArray⟩) ?_ hn;unfold execOp;simp only[hop,hx,hy];rw[<- zfP];simp[go_sem];omega
theorem infoStr:(Tryz.prog.info? 9).map (λ i=>(i.zero,i.size,i.bytes))=some (some (.string ⟨#[]⟩),1,16):=by kernel_rfl
theorem zc8 (l:List (List UInt8)):RT.cells l=l.map encStr:=by
 induction l with
 | nil=>rfl
 | cons x l ih =>
  show RT.vals x++RT.cells l=_;rw[ih];rfl
theorem qf0 {base:Nat} {u:Value} {ws:List (List UInt8)} (W:World) (hu:RT.Own W base u ws) (hl:ws.length<=1000) :
  Calls Tryz.prog 97 #[u] W λ e w'=>e=.returned (.tuple #[])/\RT.Own w' base u (sortB ws)/\W.grownBy w' u.ownBlock:=by
 have C:W.ownsRow base 9 1 u ws.length (ws.map encStr):=by rw[<- zc8];exact hu
 rcases C.2 with⟨A,h0⟩|⟨g,cap,cur,rfl,hbase,hb,h1,h2,h3,h4⟩
 ·obtain rfl:=yT.1 h0;subst A;refine (Tryz.slices_Sort_string_none none 0 W).mono ?_;rintro e w' ⟨rfl,rfl⟩;exact⟨rfl,hu,⟨rfl,rfl,rfl,ye _,λ _ _ _=>rfl⟩⟩
 ·refine (Tryz.slices_Sort_string g 0 cap ws W (holds_of_block hb (by simpa using h4)) (ya.1 hb).1 (by omega)).mono ?_;rintro e w' ⟨rfl,n,os,rfl⟩;rw[zfD];refine⟨rfl,?_,grownBy_sorted _⟩;have B:(sortB ws).length=ws.length:=(zaw ws).length_eq;have:=ownsRow_sorted (n:=n) (os:=os) B hbase hb h1 h2 h3;show World.ownsRow _ base 9 1 _ (sortB ws).length (RT.cells (sortB ws));rw[zc8,B];exact this
theorem zfZ {base:Nat} {u:Value} {ws:List (List UInt8)} (W:World) (hu:RT.Own W base u ws) (hl:ws.length<=1000) (hw:∀ x∈ws,x.length<=129) :
  Calls Tryz.prog 98 #[u,.string ⟨#[32]⟩] W λ e w'=>e=.returned (.string ⟨(joinB ws).toArray⟩)/\Bw W w':=by
 have A:W.ownsRow base 9 1 u ws.length (ws.map encStr):=by rw[<- zc8];exact hu
 rcases A.2 with⟨B,h0⟩|⟨g,cap,cur,rfl,hbase,hb,h1,h2,h3,h4⟩
 ·obtain rfl:=yT.1 h0;subst B;refine (Tryz.strings_Join_none none 0 ⟨#[32]⟩ W).mono ?_;rintro e w' ⟨rfl,rfl⟩;exact⟨rfl,yf _ _⟩
 ·have hm:(ws.map λ x=>(⟨x.toArray⟩:ByteArray)).map (·.data.toList)=ws:=by simp[Function.comp_def]
  have D:=qcu hw;have:=Tryz.strings_Join g 0 cap (ws.map λ x=>(⟨x.toArray⟩:ByteArray)) ⟨#[32]⟩ W (λ j x hx=>by
   rw[yQ]at hx;obtain⟨y,hy,rfl⟩:=Option.map_eq_some_iff.1 hx;have hc:=A.cellAt j (by have:=(yc.1 hy).1;simpa using this);rw[Nat.zero_add,hc];simp only[yQ,hy];rfl) (ya.1 hb).1 (by rw[yB];omega) (by rw[yB];exact h1) (by
   rw[hm];show (Lib.join ws [32]).length<=_;rw[qdM];omega)
  rw[yB,hm]at this;refine this.mono ?_;rintro e w' ⟨rfl,C⟩;refine⟨?_,C⟩;show Ending.returned (.string ⟨(Lib.join ws [32]).toArray⟩)=_;rw[qdM]
def stK (wx:World) (B:Nat) (u:Value) (ws:List (List UInt8)) (s36 wd:List UInt8):Nat->(Nat->Value)->World->Prop
 | 0,_,W=>W=wx.drew
 | 1,v,W=>Bw wx W/\v 2=.string ⟨s36.toArray⟩
 | 2,v,W=>Bw wx W/\∃ g,v 9=.slice (some ⟨g,0,none⟩) 1 1/\W.heap[g]?=some (.cells ([.string ⟨wd.toArray⟩]:List Value).toArray 9 (0,0))
 | 3,v,W=>∃ W1,Bw wx W1/\W1.grownBy W u.ownBlock/\RT.Own W B (v 10) (ws++[wd])
 | _,v,W=>∃ W1,Bw wx W1/\W1.grownBy W u.ownBlock/\RT.Own W B (v 11) (ws++[wd])
def cvK (kb:Nat) (u:Value) (n:Nat) (kd:Int) (s36 wd:List UInt8):Nat->Option Value
 | 0=>some u
 | 1=>some (.int .u64 n)
 | 3=>some (.string ⟨(s36++[58]).toArray⟩)
 | 4=>some (.pointer (some ⟨kb,0,none⟩))
 | 5=>some (.pointer (some ⟨kb,0,none⟩))
 | 6=>some (.int .i64 kd)
 | 7=>some (.string ⟨(fmt10 kd.toNat).toArray⟩)
 | 8=>some (.string ⟨wd.toArray⟩)
 | _=>none
theorem zfk {g:List Q} {L:List E} (h64:g.length<=64) {T:List Pc} (hT:T.length<=64) (hkd:∀ p∈T,0<=p.ld.kind/\p.ld.kind<100) {tw:List Nat} (htl:tw.length=g.length) (htw:∀ x∈tw,x<64)
  (S:HS) (w:World) (hS:RP.Has w S.laid (T.map (hpT g L))) (vt:Value) (hv:RI.Has w vt (tw.map λ n:Nat=>(n:Int))) :
  Calls Tryz.prog 40 #[RS.val S,vt] w λ e w'=>e=.returned (.string ⟨(keyT g tw T).toArray⟩)/\Bw w w':=by
 have hA:=yd w (.cells (hsVals S).toArray 108);have hB:Bw w (w.alloc (.cells (hsVals S).toArray 108)):=(yf _ w).alloc (ye _) _;have A2:S.ln=T.length:=by
  obtain⟨p,c,e⟩:=hS.slice;unfold HS.laid at e;simp only[yC,yB]at e;exact e.2.1
 obtain⟨vp,vc,rfl⟩:=hv.slice;rw[yB]at hv ⊢;have HP:=yK (hS.below hB);clear hS;have HV:=yK (hv.below hB);clear hv;have c0:(w.alloc (.cells (hsVals S).toArray 108)).cell? ⟨w.heap.size,0,none⟩=some (.slice S.lp T.length S.lc):=by rw[(qca hA).1,A2]
 unfold HS.laid at HP;rw[A2]at HP;clear A2;have C8:=yK hkd;clear hkd;have A1:=yK htw;clear htw;have G7:tw.length<=64:=by omega
 have B7:=yK htl;clear htl;show Calls _ _ #[.agg (hsVals S).toArray,_] _ _;generalize B0:(λ (e:Ending) (w':World)=>e=.returned (.string ⟨(keyT g tw T).toArray⟩)/\Bw w w')=Po;have F3:=yK B0;clear B0;go_enter func40,ntmps40;go_wp2_with fail;revert HP HV c0 hB;clear hA;generalize w.alloc (.cells (hsVals S).toArray 108)=W1;generalize S.lp=lp;generalize S.lc=lc;intro hB HP HV c0;have HB:=yK hB;clear hB;go_wp2_with fail;clear c0;go_loopw [5,14] (λ u z wr=>∃ k:Nat,k<=T.length/\z=.int .i64 k/\Hid (RT.Own wr W1.heap.size u ((T.take k).map (wordT g tw))/\Bw W1 wr)) (λ _ z _=>T.length-(intOf z).toNat)
 case atStart=>exact⟨0,by omega,rfl,yK ⟨RT.own_nil _ _,yf _ _⟩⟩
 case round =>
  obtain⟨k,hk,rfl,HR⟩:=hrel;by_cases Y:k<T.length
  ·obtain⟨p,hp⟩:∃ p,T[k]?=some p:=⟨_,yb Y⟩;obtain⟨h,hh⟩:∃ h,h=hpT g L p:=⟨_,rfl⟩;have a:(T.map (hpT g L))[k]?=some h:=(by rw[yQ,hp,hh];rfl);obtain⟨xa,rfl,r⟩:=(HP.o.below HR.o.2).at_ (by rintro e;rw[e]at a;simp at a);have B5:(Instr.loadAt 152 (.pointer (some (xa.add (k*9))))).run Tryz.prog wr=.ok (.agg (hpVals h).toArray) wr:=zn (P:=Tryz.prog) underlying152 rfl sizeP r a;have G5:=yK (C8.o p (yg hp));have E2:=yK (zl hp);clear hp a r;have C7:Hid (h.set=setG (λ q=>decide (q∈p.qs)) g):=yK (by rw[hh];rfl);have D3:Hid (h.ld.kind=p.ld.kind):=yK (by rw[hh];rfl);have C4:h.set<2 ^ 64:=(by rw[hh];exact zbc h64 _);clear hh;have B9:(Tryz.prog.info? 152).map (·.size)=some (hpVals h).toArray.size:=sizeP;have f:(hpVals h).toArray.all (·.oneCell')=true:=(by simp[hpVals,Value.oneCell']);go_upto_region 5 with (first
    | (refine qo rfl 152 _ rfl rfl B5 ?_)
    | (refine wpList_store_row rfl 152 _ _ rfl wr.heap.size rfl 152 _ (hpVals h).toArray rfl (yd wr _) B9 rfl f ?_;rw[World.setRow_alloc_new]))
   have hC:=yd wr (.cells (hpVals h).toArray 152);have N:Bw wr (wr.alloc (.cells (hpVals h).toArray 152)):=(yf _ wr).alloc (ye _) _;revert hC N;generalize wr.alloc (.cells (hpVals h).toArray 152)=w2;intro hC N;have k0:w2.cell? ⟨wr.heap.size,0,none⟩=some (.int .i64 h.ld.kind):=(zdc hC).1;have k5:w2.cell? ⟨wr.heap.size,5,none⟩=some (.int .u64 h.set):=(by simp only[World.cell?,hC];rfl);have D:=qf HR.o.1 N;have s:=HR.o.2.tm N;have C1:=yK (HV.o.below s);have HC:=yK hC;clear hC;have M:=yK (And.intro D s);clear D s N B5 B9 f;go_wp2_with fail;clear k0;obtain⟨kb,A6⟩:∃ kb,wr.heap.size=kb:=⟨_,rfl⟩;rw[A6]at k5 HC ⊢;clear A6;go_loopw [8,20] (λ u z wq=>∃ j:Nat,j<=tw.length/\z=.int .i64 j/\u=.int .u64 (setJ g tw p j)/\wq=w2) (λ _ z _=>tw.length-(intOf z).toNat)
   case atStart=>exact⟨0,by omega,rfl,rfl,rfl⟩
   obtain⟨j,hj,rfl,rfl,rfl⟩:=hrel;by_cases hjl:j<tw.length
   ·obtain⟨x,hx⟩:∃ x,tw[j]?=some x:=⟨_,yb hjl⟩;obtain⟨q,hq⟩:∃ q,g[j]?=some q:=⟨_,yb (by have:=B7.o;omega)⟩;obtain⟨va,rfl,B6⟩:=C1.o.at_ (by intro e;have h0:=YB List.length e;rw[yB]at h0;simp at h0;rw[h0]at hjl;simp at hjl);have c0:=RI.at_cell B6 (show (tw.map λ n:Nat=>(n:Int))[j]?=some (x:Int)by rw[yQ,hx];rfl);have C0:=A1.o x (yg hx);have C:=yK (zgd (p:=p) hq hx);have G:=zfo (g:=g) (p:=p) A1.o j;have A8:Hid (h.set.testBit j=decide (q∈p.qs)):=yK (by rw[C7.o,qG,hq]);clear B6 hx hq;revert G C;generalize setJ g tw p j=n;intro C G;go_wp2_with fail;refine⟨⟨j+1,by omega,by go_num,?_,by first|trivial|rfl⟩,?_⟩
    ·rw[zh4 C4,A8.o,or_bit G C0,C.o];by_cases hqp:q∈p.qs <;> simp[hqp]
    simp only[intOf];omega
   obtain rfl:j=tw.length:=(by omega);have l:=zfo (g:=g) (p:=p) A1.o tw.length;have H:Hid (za5 (setJ g tw p tw.length)++[58]++fmt10 p.ld.kind.toNat=wordT g tw p):=yK (by rw[qhp (by have:=B7.o;omega)];unfold wordT;simp);have U:=yK (zhg (setJ g tw p tw.length) l);have hkd:=G5.o;obtain⟨n,hn⟩:∃ n,setJ g tw p tw.length=n:=⟨_,rfl⟩;rw[hn]at H U l;rw[hn];have d:(za5 n).length<=64:=qbF 36 64 n [];have A9:(fmt10 p.ld.kind.toNat).length<=64:=qbF 10 64 p.ld.kind.toNat [];obtain⟨B,O⟩:∃ B,za5 n=B:=⟨_,rfl⟩;rw[O]at d;have F7:Hid (B.length+([58]:List UInt8).length<=9223372036854775807):=yK (by simp only[yA,yN];omega);have E6:Hid ((B++[58]).length+(fmt10 p.ld.kind.toNat).length<=9223372036854775807):=yK (by simp only[yL,yA,yN];omega);clear d A9;rw[O]at H U;obtain⟨wd,A0⟩:∃ wd,wordT g tw p=wd:=⟨_,rfl⟩;rw[A0]at H;obtain⟨ws,X⟩:∃ ws,(T.take k).map (wordT g tw)=ws:=⟨_,rfl⟩;have D:=M.o.1;rw[X]at D;have G8:ws.length<=64:=(by rw[<- X,yB,Yf];omega);have C9:=yK A0;clear A0;have D6:=yK X;clear X;have C6:=yK D;clear D;have A3:W1.heap.size<=wr.heap.size:=M.o.2.size;have D0:=yK M.o.2;clear O hn C1 k5;go_wp2_with fail;have C:∀ n v v' W,(∀ i∈[2,9,10,11],v i=v' i)->(stK wr W1.heap.size u5 ws B wd) n v W->(stK wr W1.heap.size u5 ws B wd) n v' W:=λ n v v' W hv hs=>by
    have h2:=hv 2 (by decide);have h9:=hv 9 (by decide);have V:=hv 10 (by decide);have E1:=hv 11 (by decide)
    match n,hs with
    | 0,hs=>exact hs
    | 1,hs=>exact⟨hs.1,h2▸hs.2⟩
    | 2,hs=>exact⟨hs.1,h9▸hs.2⟩
    | 3,hs =>
     obtain⟨W3,q1,q2,q3⟩:=hs;rw[V]at q3;exact⟨W3,q1,q2,q3⟩
    | _+4,hs =>
     obtain⟨W3,q1,q2,q3⟩:=hs;rw[E1]at q3;exact⟨W3,q1,q2,q3⟩
   have Z:∀ i∈[2,9,10,11],(cvK kb u5 n p.ld.kind B wd) i=none:=λ i hi=>by
    simp only[Ye,List.not_mem_nil,or_false]at hi;rcases hi with rfl|rfl|rfl|rfl <;> rfl
   have G6:Hid (∀ L1 A W,ChainJ [2,9,10,11] (cvK kb u5 n p.ld.kind B wd) (stK wr W1.heap.size u5 ws B wd) L1 A W->L1 9=false->W.cell? ⟨kb,0,none⟩=some (.int .i64 p.ld.kind)):=yK λ L1 A W hJ h9=>by
    obtain⟨_,n,_,h3,hs⟩:=hJ;have G2:n<=1:=by
     have:=h3 1 9 rfl;rw[h9]at this;simp at this;omega
    have hb:Bw wr W:=by
     match n,hs,G2 with
     | 0,hs,_=>rw[show W=wr.drew from hs];exact (yf _ wr).drew
     | 1,hs,_=>exact hs.1
    have h4:=(hb.block _ (ya.1 HC.o).1).trans HC.o;have h5:=(zdc h4).1;rw[D3.o]at h5;exact h5
   have G3:Hid (∀ W,Calls Tryz.prog 96 #[.int .i64 p.ld.kind] W λ e w'=>e=.returned (.string ⟨(fmt10 p.ld.kind.toNat).toArray⟩)/\w'=W):=yK λ W=>by
    obtain⟨kn,F5⟩:∃ kn:Nat,p.ld.kind=kn:=⟨p.ld.kind.toNat,by omega⟩;have Y:kn<100:=(by omega);rw[F5];have:=Tryz.strconv_Itoa_small kn Y W;rw[qil kn Y]at this;exact this
   have F4:Hid (ws.length+1<=maxLen):=yK (by simp only[maxLen];omega);have D7:Hid ((ws.length+1)*16<=140737488355328):=yK (by omega);refine zT 51 (by kernel_rfl) (by kernel_rfl) rfl (ChainJ [2,9,10,11] (cvK kb u5 n p.ld.kind B wd) (stK wr W1.heap.size u5 ws B wd)) (ChainJ.start (λ _=>rfl) _) ?_ ?_
   ·refine⟨?_,?_,?_,?_,?_,?_,?_,?_,?_,?_,?_,?_,trivial⟩
    ·intro L1 b W A hL hD hC K hJ;have e5:b.eval (.tmp 5)=u5:=(K.was 5 (by kernel_rfl)).trans rfl;refine qO rfl ?_;rw[e5];exact hJ.other C (by decide) rfl
    ·intro L1 b W A hL hD hC K hJ;have e8:b.eval (.tmp 8)=(.int .u64 n):=(K.was 8 (by kernel_rfl)).trans rfl;refine qO rfl ?_;rw[e8];exact hJ.other C (by decide) rfl
    ·intro L1 b W A hL hD hC K hJ;obtain⟨F2,_⟩:=K.val 1 36 (by kernel_rfl);have D5:=hJ.pure_ 1 _ rfl (hD 1 (by kernel_rfl));have ew:W=wr.drew:=hJ.at_ 0 (λ _ h=>absurd h (by decide)) (by decide) (λ k hk=>by simp at hk;subst hk;exact hL);refine qX (args:=#[.int .u64 n,.int .i64 36]) rfl (by simp only[Yu,yM,Yi,F2,D5];rfl) (enters_of func95 (by kernel_rfl) rfl) ?_;rw[ew];refine (U.o wr.drew).mono ?_;rintro e' w' ⟨rfl,hp⟩;exact⟨_,rfl,hJ.step (by decide) Z (n:=0) rfl (λ _ h=>absurd h (by decide)) hL (λ _=>⟨((yf _ wr).drew).trans hp,rfl⟩)⟩
    ·intro L1 b W A hL hD hC K hJ;obtain⟨D4,_⟩:=K.val 2 37 (by kernel_rfl);have h2:L1 2=true:=hD 2 (by kernel_rfl);have n8:L1 8=false:=zx hC hL (by decide) (by kernel_rfl);have n9:L1 9=false:=zx hC n8 (by decide) (by kernel_rfl);have F:=hJ.at_ 1 (λ k _ hk=>by simp at hk;subst hk;exact h2) (by decide) (λ k hk=>by simp at hk;subst hk;exact n9);obtain⟨hb,hv⟩:Bw wr W/\A 2=.string ⟨B.toArray⟩:=F;exact zft (m:=B) (n:=[58]) rfl (D4.trans hv) rfl F7.o (hJ.other C (by decide) rfl)
    ·intro L1 b W A hL hD hC K hJ;have e7:b.eval (.tmp 7)=(.pointer (some ⟨kb,0,none⟩)):=(K.was 7 (by kernel_rfl)).trans rfl;refine lu_v (I:=Instr.fieldAt 152 (b.eval (.tmp 7)) 0) rfl ?_ (hJ.other C (by decide) rfl);rw[e7];kernel_rfl
    ·intro L1 b W A hL hD hC K hJ;obtain⟨G4,_⟩:=K.val 4 39 (by kernel_rfl);have E5:=hJ.pure_ 4 _ rfl (hD 4 (by kernel_rfl));refine lu_v (I:=Instr.fieldAt 50 (b.eval (.tmp 39)) 0) rfl ?_ (hJ.other C (by decide) rfl);rw[G4,E5];kernel_rfl
    ·intro L1 b W A hL hD hC K hJ;obtain⟨F1,_⟩:=K.val 5 40 (by kernel_rfl);have E3:=hJ.pure_ 5 _ rfl (hD 5 (by kernel_rfl));have n7:L1 7=false:=zx hC hL (by decide) (by kernel_rfl);have n8:L1 8=false:=zx hC n7 (by decide) (by kernel_rfl);have n9:L1 9=false:=zx hC n8 (by decide) (by kernel_rfl);refine lu_v (I:=Instr.loadAt 3 (b.eval (.tmp 40))) rfl ?_ (hJ.other C (by decide) rfl);rw[F1,E3];exact ql isAgg3 (G6.o L1 A W hJ n9)
    ·intro L1 b W A hL hD hC K hJ;obtain⟨F8,_⟩:=K.val 6 41 (by kernel_rfl);have D8:=hJ.pure_ 6 _ rfl (hD 6 (by kernel_rfl));refine qX (args:=#[.int .i64 p.ld.kind]) rfl (by simp only[Yu,yM,Yi,F8,D8]) (enters_of func96 (by kernel_rfl) rfl) ?_;refine (G3.o W).mono ?_;rintro e' w' ⟨rfl,rfl⟩;exact⟨_,rfl,hJ.other C (by decide) rfl⟩
    ·intro L1 b W A hL hD hC K hJ;obtain⟨D9,_⟩:=K.val 3 38 (by kernel_rfl);have E7:=hJ.pure_ 3 _ rfl (hD 3 (by kernel_rfl));obtain⟨E8,_⟩:=K.val 7 42 (by kernel_rfl);have G0:=hJ.pure_ 7 _ rfl (hD 7 (by kernel_rfl));refine zft (m:=B++[58]) (n:=fmt10 p.ld.kind.toNat) rfl (D9.trans E7) (E8.trans G0) E6.o ?_;rw[H.o];exact hJ.other C (by decide) rfl
    ·intro L1 b W A hL hD hC K hJ;obtain⟨E4,_⟩:=K.val 8 43 (by kernel_rfl);have F0:=hJ.pure_ 8 _ rfl (hD 8 (by kernel_rfl));have G9:L1 10=false:=zx hC hL (by decide) (by kernel_rfl);have h2:L1 2=true:=hC 3 2 (by decide) (hC 8 3 (by decide) (hD 8 (by kernel_rfl)) (by kernel_rfl)) (by kernel_rfl);have F:=hJ.at_ 1 (λ k _ hk=>by simp at hk;subst hk;exact h2) (by decide) (λ k hk=>by simp at hk;subst hk;exact hL);obtain⟨hb,hv⟩:Bw wr W/\A 2=.string ⟨B.toArray⟩:=F;obtain⟨iI,y,A4,R,B2⟩:=info_parts infoStr;refine zac rfl (E4.trans F0) underlying110 y A4 (by rw[R];decide) (by rw[R];decide) (cells:=([.string ⟨wd.toArray⟩]:List Value).toArray) (by rw[R];exact Great.fill_flat [.string ⟨wd.toArray⟩] _ (λ v hv=>by simp only[yU]at hv;subst hv;rfl) (by simp)) ?_;exact hJ.step (by decide) Z (n:=1) rfl (λ k _ hk=>by simp at hk;subst hk;exact h2) hL (λ _=>⟨hb.alloc hb.size _,W.heap.size,rfl,yd W _⟩)
    ·intro L1 b W A hL hD hC K hJ;obtain⟨G1,_⟩:=K.val 0 35 (by kernel_rfl);have E0:=hJ.pure_ 0 _ rfl (hD 0 (by kernel_rfl));obtain⟨F6,_⟩:=K.val 9 44 (by kernel_rfl);have h9:L1 9=true:=hD 9 (by kernel_rfl);have F:=hJ.at_ 2 (λ k _ hk=>by simp at hk;subst hk;exact h9) (by decide) (λ k hk=>by simp at hk;subst hk;exact hL);obtain⟨hb,gn,hv,D2⟩:Bw wr W/\∃ g,A 9=.slice (some ⟨g,0,none⟩) 1 1/\W.heap[g]?=some (.cells ([.string ⟨wd.toArray⟩]:List Value).toArray 9 (0,0)):=F;obtain⟨iI,y,A4,R,B2⟩:=info_parts infoStr;obtain⟨v',W',hr,ho,J,_,r⟩:=run_append_own_at (P:=Tryz.prog) W W1.heap.size 110 110 9 iI _ 1 16 underlying110 y A4 R B2 rfl (by decide) u5 ws.length (RT.cells ws) (qf C6.o hb) ⟨gn,0,none⟩ 1 1 [.string ⟨wd.toArray⟩] rfl (zI D2) (RT.one wd) F4.o D7.o (yJ A3 hb.size);refine zab rfl (G1.trans E0) (F6.trans hv) hr ?_;exact hJ.step (by decide) Z (n:=2) rfl (λ k _ hk=>by simp at hk;subst hk;exact h9) hL (λ _=>⟨W,hb,J,RT.own_snoc ho⟩)
    intro L1 b W A hL hD hC K hJ;obtain⟨E9,_⟩:=K.val 10 45 (by kernel_rfl);have V:L1 10=true:=hD 10 (by kernel_rfl);have F:=hJ.at_ 3 (λ k _ hk=>by simp at hk;subst hk;exact V) (by decide) (λ k hk=>by simp at hk;subst hk;exact hL);obtain⟨W3,hb,J,ho⟩:∃ W3,Bw wr W3/\W3.grownBy W u5.ownBlock/\RT.Own W W1.heap.size (A 10) (ws++[wd]):=F;refine qgH rfl ?_;rw[E9];exact hJ.step (by decide) Z (n:=3) rfl (λ k _ hk=>by simp at hk;subst hk;exact V) hL (λ _=>⟨W3,hb,J,ho⟩)
   intro L1 A W hL hJ;have F:=hJ.at_ 4 (λ k _ hk=>by simp at hk;subst hk;exact hL 11 (by decide)) (by decide) (λ k hk=>by simp at hk);obtain⟨W3,t,J,ho⟩:∃ W3,Bw wr W3/\W3.grownBy W u5.ownBlock/\RT.Own W W1.heap.size (A 11) (ws++[wd]):=F;clear hJ hL;have HO:=yK ho;clear ho;have F9:Hid (Bw W1 W):=yK ((D0.o.trans (t.mono A3)).grown J (yJ A3 t.size) λ b e=>(qg C6.o e).1);clear t J;simp only[yA,yN,Yl,YE,Yk,Yg,yM,Yi,putAll,Act.put,yr,yF,yE];generalize A 11=u5' at HO ⊢;go_wp2_with fail
   go_roundw
   case rel=>exact⟨k+1,by omega,by go_num,yK ⟨by rw[E2.o,Ym,D6.o];show RT.Own W _ _ (ws++[wordT g tw p]);rw[C9.o];exact HO.o,F9.o⟩⟩
   case measure=>simp only[intOf];omega
  obtain rfl:k=T.length:=by omega
  rw[Yd]at HR;have B4:=yK (qf0 _ HR.o.1 (by rw[yB];omega));have A5:=yK HR.o.2;have C2:=yK HR.o.1;clear HR;go_wp2_with fail;refine B4.o.mono ?_;rintro e w5 ⟨rfl,B1,A7⟩;have B3:Bw W1 w5:=A5.o.grown A7 A5.o.size λ b e=>(qg C2.o e).1;have B8:=yK (zfZ w5 B1 (by rw[(zaw _).length_eq,yB];omega) (λ x hx=>by
   obtain⟨p,_,rfl⟩:=yP.1 ((zaw _).mem_iff.1 hx);exact qdW g tw p))
  have C5:=yK (HB.o.tm B3);clear B3 A7 B1 B4 C2 A5;go_wp2_with fail;refine B8.o.mono ?_;rintro e w6 ⟨rfl,C3⟩;have D1:=yK (C5.o.tm C3);clear C3 B8 C5;go_wp2_with fail;rw[<- F3.o];exact⟨rfl,D1.o⟩
section
variable {P:Program} {ops:Array Oper} {C:World->Prop} {Q:Act->Prop} {a:Act} {o:Oper} {rest:List Oper}
theorem zbJ (hw:Region.wanted o (yielded ops a.tmps)=true) (ty:TypeId) (x:Operand) (ho:o.op=.load ty x) {p:Value} (hx:a.eval x=p) {v:Value} (hv:∀ w,C w->(Instr.loadAt ty p).run P w=.ok v w) (h:wpQuiet P ops C Q rest (a.put o.dst v)) :
  wpQuiet P ops C Q (o :: rest) a:=by
 refine wpQuiet_step λ K hK=>?_;rw[YA hw];refine⟨v,λ w hc=>?_,hK _ h⟩;unfold Oper.quietAt execOp;simp only[ho,hx,yG,hv w hc,yz,yH];exact⟨rfl,rfl⟩
end
theorem mapM_mem {α β:Type} {f:α->Option β}:∀ {l:List α} {T:List β},l.mapM f=some T->∀ y∈T,∃ x∈l,f x=some y
 | [],T,h,y,hy=>by simp at h;subst h;simp at hy
 | a :: l,T,h,y,hy=>by
  simp only[List.mapM_cons,Option.bind_eq_bind,Option.bind_eq_some_iff,Option.pure_def,yo]at h;obtain⟨b,hb,T',hT',rfl⟩:=h;rcases Ye.1 hy with rfl|hy
  ·exact⟨a,by simp,hb⟩
  obtain⟨x,hx,h2⟩:=mapM_mem hT' y hy;exact⟨x,Yn _ hx,h2⟩
theorem zfr {g:List Q} {tw:List Nat} (h:tw∈waysT g):tw.length=g.length/\∀ x∈tw,x<g.length:=by
 unfold waysT at h;obtain⟨i,_,hi⟩:=List.mem_filterMap.1 h;rw[qfw]at hi;refine⟨by rw[qcl hi];unfold imgT;simp,λ x hx=>?_⟩;obtain⟨q,_,hq⟩:=mapM_mem hi x hx;exact (zeB hq).2
def stepU (g:List Q) (a:List (List UInt8) × Nat) (s:List Pc):List (List UInt8) × Nat :=
 if keyT g ((waysT g).headD []) s∈a.1 then a else (a.1++(waysT g).map λ tw=>keyT g tw s,a.2+1)
def foldU (g:List Q) (l:List (List Pc)) (i:Nat):List (List UInt8) × Nat:=(l.take i).foldl (stepU g) ([],0)
theorem zf2 (g:List Q) (l:List (List Pc)):foldU g l 0=([],0):=rfl
theorem qfM {g:List Q} {l:List (List Pc)} {i:Nat} {s:List Pc} (h:l[i]?=some s):foldU g l (i+1)=stepU g (foldU g l i) s:=by
 unfold foldU;rw[zl h,List.foldl_append];rfl
theorem zgW (g:List Q) (l:List (List Pc)):(foldU g l l.length).2=unlikeT g l:=by
 unfold foldU unlikeT;rw[Yd];rfl
theorem zhv (g:List Q) (l:List (List Pc)):∀ i,(foldU g l i).2<=i:=by
 intro i;have key:∀ (m:List (List Pc)) (a:List (List UInt8) × Nat),(m.foldl (stepU g) a).2<=a.2+m.length:=by
  intro m
  induction m with
  | nil=>intro a;simp
  | cons s m ih =>
   intro a;rw[Yv];have h1:=ih (stepU g a s);have h2:(stepU g a s).2<=a.2+1:=by unfold stepU;split <;> simp
   simp only[yA];omega
 have:=key (l.take i) ([],0);unfold foldU;have h2:(l.take i).length<=i:=by rw[Yf];omega
 simp only at this;omega
structure WaysAt (W:World) (base:Nat) (v:Value) (vs:List Value) (wl:List (List Nat)):Prop where
 own:W.ownsRow base 30 1 v wl.length vs
 len:vs.length=wl.length
 each:∀ (i:Nat) (u:Value) (l:List Nat),vs[i]?=some u->wl[i]?=some l->RI.Own W 0 u (l.map λ n:Nat=>(n:Int))
theorem zfS (W:World) (base:Nat):WaysAt W base (.slice none 0 0) [] []:=⟨World.ownsRow_nil W base _ 1,rfl,λ i u l h=>by simp at h⟩
theorem WaysAt.below {W W':World} {base:Nat} {v:Value} {vs:List Value} {wl:List (List Nat)} (h:WaysAt W base v vs wl) (e:Bw W W'):WaysAt W' base v vs wl :=
 ⟨qf h.own e,h.len,λ i u l hu hl=>qf (h.each i u l hu hl) e⟩
theorem WaysAt.ext {W W':World} {base B:Nat} {v:Value} {vs:List Value} {wl:List (List Nat)} (h:WaysAt W base v vs wl) (e:Ext B W W'):WaysAt W' base v vs wl :=
 ⟨Stab.owns B _ _ _ _ _ _ W W' h.own e,h.len,λ i u l hu hl=>Stab.owns B _ _ _ _ _ _ W W' (h.each i u l hu hl) e⟩
theorem WaysAt.move {W W':World} {base:Nat} {v:Value} {vs:List Value} {wl:List (List Nat)} (h:WaysAt W base v vs wl) (e:∀ (k:Nat) (cs:Array Value) (T:TypeId),(T=3\/T=30)->W.heap[k]?=some (.cells cs T (0,0))->W'.heap[k]?=W.heap[k]?):WaysAt W' base v vs wl :=
 ⟨qj h.own λ k hk=>by obtain⟨_,_,cs,hc⟩:=qg h.own hk;exact e k cs _ (.inr rfl) hc,h.len,λ i u l hu hl=>qj (h.each i u l hu hl) λ k hk=>by
  obtain⟨_,_,cs,hc⟩:=qg (h.each i u l hu hl) hk;exact e k cs _ (.inl rfl) hc⟩
theorem WaysAt.snoc {W W':World} {base:Nat} {v v' u:Value} {vs:List Value} {wl:List (List Nat)} {l:List Nat} (h:WaysAt W base v vs wl) (hg:W.grownBy W' v.ownBlock) (ho:W'.ownsRow base 30 1 v' (wl.length+1) (vs++[u])) (hu:RI.Own W 0 u (l.map λ n:Nat=>(n:Int))) :
  WaysAt W' base v' (vs++[u]) (wl++[l]):=by
 have B:∀ (x:Value) (m:List Nat),RI.Own W 0 x (m.map λ n:Nat=>(n:Int))->RI.Own W' 0 x (m.map λ n:Nat=>(n:Int)):=λ x m hx=>by
  refine qj hx λ k hk=>?_;obtain⟨_,C,F,hc⟩:=qg hx hk;refine hg.block k C λ e=>?_;obtain⟨_,_,D,A⟩:=qg h.own e.symm;rw[hc]at A;simp only[yo,Yh]at A;exact absurd A.2.1 (by decide)
 refine⟨by rw[yL];exact ho,by simp[h.len],λ i x m hx hm=>?_⟩;rcases qQ hx with hx1|⟨hi,rfl⟩
 ·rcases qQ hm with hm1|⟨hj,rfl⟩
  ·exact B _ _ (h.each i x m hx1 hm1)
  have:=(yc.1 hx1).1;have:=h.len;omega
 ·rcases qQ hm with hm1|⟨_,rfl⟩
  ·have:=(yc.1 hm1).1;have:=h.len;omega
  exact B _ _ hu
theorem WaysAt.slice {W:World} {base:Nat} {v:Value} {vs:List Value} {wl:List (List Nat)} (h:WaysAt W base v vs wl):∃ p c,v=.slice p wl.length c:=zf h.own |> λ ⟨p,c,e⟩=>⟨p,c,e⟩
def ctR (w4:World) (wl:List (List Nat)) (b k:Nat) (W:World):Prop :=
 ∃ (v:Value) (vs:List Value),Bw w4 W/\Boxed W w4.heap.size 99 v/\WaysAt W (w4.heap.size+1) v vs (wl.take k)/\v.ownBlock≠some b
theorem zb8 {w4:World} {B:Nat} (h:w4.heap.size<=B) (wl:List (List Nat)) (b k:Nat):Stab B (ctR w4 wl b k):=by
 rintro W W' ⟨v,vs,h1,h2,h3,h4⟩ e;exact⟨v,vs,Stab.below (B:=B) h (ye _) W W' h1 e,Stab.boxed B _ _ _ W W' h2 e,h3.ext e,h4⟩
theorem zhl {w4 W2 w10:World} {wl:List (List Nat)} {k b B:Nat} {v v' u:Value} {vs:List Value} {way:List Nat} {o O:Obj} (hb:Bw w4 W2) (hbx:Boxed W2 w4.heap.size 99 v) (hws:WaysAt W2 (w4.heap.size+1) v vs (wl.take k)) (hvb:v.ownBlock≠some b)
  (hu:RI.Own W2 0 u (way.map λ n:Nat=>(n:Int))) (hway:wl[k]?=some way) (hob:W2.heap[b]?=some o) (hbb:w4.heap.size<b)
  (ho:w10.ownsRow (w4.heap.size+1) 30 1 v' ((wl.take k).length+1) (vs++[u])) (hg:(W2.alloc O).grownBy w10 v.ownBlock) (hat:v'.ownBlock=v.ownBlock\/v'.ownBlock=some (W2.alloc O).heap.size) :
  KeepsFrom B W2 (w10.setCell ⟨w4.heap.size,0,none⟩ v')/\ctR w4 wl b (k+1) (w10.setCell ⟨w4.heap.size,0,none⟩ v')/\(w10.setCell ⟨w4.heap.size,0,none⟩ v').heap[b]?=some o:=by
 have D:Bw W2 (W2.alloc O):=(yf _ W2).alloc (ye _) _;have F:=(hws.below D).snoc hg ho (qf hu D);have C:∀ c,v.ownBlock=some c->w4.heap.size+1<=c/\c<W2.heap.size:=λ c hc=>⟨(qg hws.own hc).1,(qg hws.own hc).2.1⟩;have H:=hbx.lt;have I:=(ya.1 hob).1;have G:(W2.alloc O).heap.size=W2.heap.size+1:=yp _ _;have A:Boxed w10 w4.heap.size 99 v:=(hg.block _ (by omega) λ e=>by have:=(C _ e.symm).1;omega).trans (heapO O hbx);refine⟨?_,⟨v',vs++[u],?_,Boxed.set _ A,?_,?_⟩,?_⟩
 ·have k1:KeepsFrom B W2 (W2.alloc O):=⟨by omega,λ k o' _ hk _=>heapO O hk⟩;have k2:KeepsFrom B (W2.alloc O) w10:=qbR hg (λ c hc=>by
   obtain⟨_,_,cs,h1⟩:=qg (hws.below D).own hc;exact⟨_,_,_,h1⟩)
  have k3:KeepsFrom B w10 (w10.setCell ⟨w4.heap.size,0,none⟩ v'):=⟨by simp,λ k o' _ hk ho'=>by
   by_cases e:k=w4.heap.size
   ·subst e;rw[show w10.heap[w4.heap.size]?=_ from A]at hk;cases hk;cases ho'
   exact (yq w10 _ _ v' e).trans hk⟩
  exact (k1.trans k2).trans k3
 ·exact ((hb.alloc hb.size O).grown hg (by have:=hb.size;omega) λ c hc=>by have:=(C c hc).1;omega).setCell (ye _) _
 ·rw[zl hway];refine F.move λ c cs T hT hc=>yq _ _ _ _ λ e=>?_;simp only at e;subst e;rw[show w10.heap[w4.heap.size]?=_ from A]at hc;simp only[yo,Yh]at hc;rcases hT with rfl|rfl
  ·exact absurd hc.2.1 (by decide)
  exact absurd hc.2.1 (by decide)
 ·rcases hat with e|e
  ·rw[e];exact hvb
  rw[e,G];intro e';simp only[yo]at e';omega
 ·exact (yq w10 _ _ v' (by simp only;omega)).trans ((hg.block b (by omega) λ e=>hvb e.symm).trans (heapO O hob))
structure CtI (w4:World) (mb D:Nat) (v:Value) (vs:List Value) (wl:List (List Nat)) (S:List (List UInt8)) (W:World):Prop where
 below:Bw w4 W
 box:Boxed W w4.heap.size 99 v
 ways:WaysAt W (w4.heap.size+1) v vs wl
 map:HasM txtV W mb (setM S)
 defr:W.heap[D]?=some (.deferred (some []))
theorem CtI.keep {w4 W W':World} {mb D:Nat} {v:Value} {vs:List Value} {wl:List (List Nat)} {S:List (List UInt8)} (h:CtI w4 mb D v vs wl S W) (e:Bw W W'):CtI w4 mb D v vs wl S W' :=
 ⟨h.below.tm e,(e.block _ h.box.lt).trans h.box,h.ways.below e,h.map.below e,(e.block _ (ya.1 h.defr).1).trans h.defr⟩
theorem CtI.put {w4 W:World} {mb D:Nat} {v:Value} {vs:List Value} {wl:List (List Nat)} {S:List (List UInt8)} (h:CtI w4 mb D v vs wl S W) (hmb:w4.heap.size+1<=mb) (S':List (List UInt8)):CtI w4 mb D v vs wl S' (putM txtV W mb (setM S')):=by
 have hm:=h.map;unfold HasM at hm;refine⟨h.below.trans (qag W (by omega) _),(zD W (by omega) _).trans h.box,h.ways.move λ k cs T _ hc=>zD W (λ e=>?_) _,HasM.put h.map.lt _,(zD W (λ e=>?_) _).trans h.defr⟩
 ·subst e;rw[hm]at hc;cases hc
 subst e;have:=h.defr;rw[hm]at this;cases this
end Go.Proofs.YtiinlplgloaanaaGreatDoor
