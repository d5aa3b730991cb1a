/- Plain maths of chapter 7: the edges of a ground, as the board numbers them; valid tasks. -/
import Derived.Test.YtiinlplgloaanaaGreatDoorZzLayerTouches34
set_option linter.all false
set_option maxRecDepth 100000
set_option maxHeartbeats 4000000
namespace Go.Proofs.YtiinlplgloaanaaGreatDoor
open Go.Proofs.Tryz Go.RowKit
attribute [local go_sem] Oper.semAt_some
def RU:REnc Nat:=⟨5,1,λ n=>[.int .u8 n],λ _=>rfl,λ s u h=>by simp at h;subst h;rfl⟩
def zeroTask:Array Value:=#[.slice none 0 0,.slice none 0 0,.slice none 0 0,.slice none 0 0,.slice none 0 0]
theorem sizeTask:(Tryz.prog.info? 34).map (·.size)=some 5:=by kernel_rfl
theorem mt {next:Value->World->Prop} {o:Oper} {x:Operand} (hop:o.op=.convert 5 3 x) {b:Act} {W:World} {c:Nat} (hx:b.eval x=.int .u8 c) (hc:c<256) (hn:next (.int .i64 c) W):loudUpon Tryz.prog next ((execOp b.eval o).run Tryz.prog W):=by
 refine qQ (W':=W) (v:=.int .i64 c) ?_ hn;unfold execOp;simp only[hop,hx];have A:IntKind.i64.wrap (c:Int)=c:=by rw[IntKind.wrap_i64];omega
 simp[go_sem,A]
section
variable {w W W':World} {tb nb:Nat} {vg vk vc u:Value} {us:List Value} {ls:List (List Q)} {l g:List Q} {cs:List Int} {cn n m:Nat} {v:Nat->Value}
theorem gt {T0:TypeId} {x:Value} {n0 k:Nat} {xs:List Value} {size base:Nat} (ho:W.ownsRow base T0 size x n0 xs) (hg:W.grownBy W' x.ownBlock) {cs:Array Value} {T:TypeId} (hT:T≠T0) (hc:W.heap[k]?=some (.cells cs T (0,0))):W'.heap[k]?=W.heap[k]? :=
 hg.block k (ya.1 hc).1 λ e=>by
  obtain⟨_,_,cs2,hc2⟩:=qg ho e.symm;rw[hc]at hc2;simp only[yo,Yg]at hc2;exact hT hc2.2.1
end
theorem cM {P:Program} {w:World} {ops:Array Oper} {rest:List Oper} {o:Oper} {a:Act} {Q:Exit->Act->World->Prop} (hgd:o.guard=none) (s x:Operand) (t:TypeId)
  (ho:o.op=.call { callee:=.builtin .append,args:=#[s,x],argTypes:=#[t,t] }) {u y v':Value} {w':World} (hs:a.eval s=u) (hx:a.eval x=y) (hr:(Builtin.append_ #[t,t] o.type #[u,y]).run P w=.ok v' w') (h:wpList P ops Q rest (a.put o.dst v') w') :
  wpList P ops Q (o :: rest) a w:=by
 refine wpList_plain hgd λ K hK=>?_;unfold Oper.wp execOp;simp only[ho,resolve,invoke,builtin,yG,yH,yz,Yt,yM,Yh,hs,hx,hr];exact hK _ _ h
theorem run_append_nil (W:World) (b:Nat):(Builtin.append_ #[22,22] 22 #[.slice (some ⟨b,0,none⟩) 0 0,.slice none 0 0]).run Tryz.prog W=.ok (.slice (some ⟨b,0,none⟩) 0 0) W:=by
 simp[Builtin.append_,go_sem]
end Go.Proofs.YtiinlplgloaanaaGreatDoor
namespace Go.Proofs.YtiinlplgloaanaaGreatDoor
open Go.Proofs.Tryz Go.RowKit Go.ChangeShapes Go.WideShapes Go.Deep Go.Joins
theorem eG {α:Type} [Inhabited α] (R:REnc α) (hn:0<R.n) {T:TypeId} (hT:Tryz.prog.underlying T=some (.slice R.ty)) (hcells:Tryz.prog.cellsOf R.ty=R.n) {H:Type} {enc:TypeId × Value->H} {w:World} {spare:Nat->Bool} {held:Bool} {fuel:Nat} {v:Value} {x:DataW H × List MemPlace} {good:α->Prop}
  (hel:∀ (fuel':Nat) (cs:List Value) (y:DataW H × List MemPlace),cs.length=R.n->DataW.trod enc Tryz.prog w 0 spare held fuel' R.ty cs=some y->∃ r:α,cs=R.vals r/\good r)
  (h:DataW.trod enc Tryz.prog w 0 spare held fuel T [v]=some x):∃ l:List α,R.Has w v l/\∀ r∈l,good r:=by
 rcases open_slice hT h with⟨B,_⟩|⟨a,len,cap,m,n,D,Pl,B,_,hl,hm,hmm,_,hx⟩
 ·simp only[YY,and_true]at B;exact⟨[],.inl ⟨B,rfl⟩,λ r hr=>by cases hr⟩
 ·simp only[YY,and_true]at B;subst B;have O:len<=m:=by rw[hmm];split <;> omega
  have F:∀ i,i<m->∃ q:α,good q/\∀ (j:Nat) (u:Value),(R.vals q)[j]?=some u->w.cell? (a.add (i*R.n+j))=some u:=by
   intro i G;obtain⟨S,L,N⟩:=hx i G;rw[hcells]at L;obtain⟨_,I,A⟩:=World.cells?_some L;obtain⟨r,rfl,M⟩:=hel _ _ _ I N;refine⟨r,M,λ j u hu=>?_⟩;have P:j<R.n:=(by rw[<- R.len r];exact(yc.1 hu).1);have C:=A j P;rw[add_add]at C;rw[C,<- hu]
  obtain⟨q,J⟩:=choose_lt F;refine⟨(List.range len).map q,.inr ⟨a,cap,by simp,by simpa using hl,hm,⟨λ hne=>?_,λ i r hr j u hu=>?_⟩⟩,λ r hr=>?_⟩
  ·have B:0<len:=by
    rcases Nat.eq_zero_or_pos len with h|h
    ·subst h;exact kV rfl hne
    exact h
   have K:0<(R.vals (q 0)).length:=(by rw[R.len];exact hn);have C:=(J 0 (by omega)).2 0 _ (yb K);unfold World.cell? at C;rcases kg (a.add (0*R.n+0)).block w.heap.size with h|h
   ·rwa [block_add]at h
   rw[ky h]at C;cases C
  ·have G:i<len:=by have:=(yc.1 hr).1;simpa using this
   rw[yQ,kG G]at hr;simp only[kr,yo]at hr;subst hr;exact(J i (by omega)).2 j u hu
  obtain⟨i,G,rfl⟩:=yP.1 hr;have:=kO.1 G;exact(J i (by omega)).1
instance :Inhabited Ld:=⟨⟨0,false,0,0,0⟩⟩
instance :Inhabited E:=⟨⟨0,0,0⟩⟩
theorem sN:Tryz.prog.cellsOf 5=1:=by kernel_rfl
theorem xG {H:Type} {enc:TypeId × Value->H} {w:World} {spare:Nat->Bool} {held:Bool} {fuel:Nat} {v:Value} {x:DataW H × List MemPlace} (h:DataW.trod enc Tryz.prog w 0 spare held fuel 37 [v]=some x):∃ l:List Nat,RU.Has w v l/\∀ r∈l,r<256:=by
 refine eG RU (by decide) underlying37 sN (λ fuel' cs y hl hy=>?_) h
 match cs,hl with
 | [y0],_ =>
  obtain⟨A,B,_,D⟩:=DataW.trod_int underlying5 hy;simp only[YY,and_true]at B;have C:0<=A/\A<256:=by
   have h:IntKind.u8.min<=A/\A<=IntKind.u8.max:=(by simpa[Lit.wf]using D);have G:(0:Int)<=A:=h.1;have F:A<=255:=h.2;omega
  exact⟨A.toNat,by rw[B];show _=[Value.int .u8 ((A.toNat:Nat):Int)];rw[Int.toNat_of_nonneg C.1],by omega⟩
theorem md {H:Type} {enc:TypeId × Value->H} {W:World} {base:Nat} {v:Value} {d:DataW H} {p:List MemPlace} (hval:Value.okWide Tryz.prog W .any base 37 v) (h:DataW.Trod enc Tryz.prog W 0 (λ _=>true) true 37 v d p):∃ l:List Nat,RU.Has W v l/\∀ r∈l,r<256:=by
 obtain⟨F,C,A,rfl⟩:=okWide_slice underlying37 hval;obtain⟨B,D⟩:=h;exact xG D
theorem cellsLd:Tryz.prog.cellsOf 50=5:=by kernel_rfl
theorem cellsEd:Tryz.prog.cellsOf 61=3:=by kernel_rfl
theorem cellsIn:Tryz.prog.cellsOf 3=1:=by kernel_rfl
theorem cellsBo:Tryz.prog.cellsOf 4=1:=by kernel_rfl
theorem cellsTa:Tryz.prog.cellsOf 34=5:=by kernel_rfl
theorem structLd:∃ f0 f1:Field,Tryz.prog.underlying 50=some (.struct #[f0,f1])/\f0.type=3/\f1.type=45/\f0.offset=0/\f1.offset=1:=⟨_,_,underlying50,rfl,rfl,rfl,rfl⟩
theorem structPl:∃ f0 f1 f2 f3:Field,Tryz.prog.underlying 45=some (.struct #[f0,f1,f2,f3])/\f0.type=4/\f1.type=3/\f2.type=3/\f3.type=3/\f0.offset=0/\f1.offset=1/\f2.offset=2/\f3.offset=3:=⟨_,_,_,_,underlying45,rfl,rfl,rfl,rfl,rfl,rfl,rfl,rfl⟩
theorem structEd:∃ f0 f1 f2:Field,Tryz.prog.underlying 61=some (.struct #[f0,f1,f2])/\f0.type=3/\f1.type=3/\f2.type=3/\f0.offset=0/\f1.offset=1/\f2.offset=2:=⟨_,_,_,underlying61,rfl,rfl,rfl,rfl,rfl,rfl⟩
theorem structTa:∃ f0 f1 f2 f3 f4:Field,Tryz.prog.underlying 34=some (.struct #[f0,f1,f2,f3,f4])/\f0.type=22/\f1.type=29/\f2.type=30/\f3.type=31/\f4.type=32/\f0.offset=0/\f1.offset=1/\f2.offset=2/\f3.offset=3/\f4.offset=4 :=
 ⟨_,_,_,_,_,underlying34,rfl,rfl,rfl,rfl,rfl,rfl,rfl,rfl,rfl,rfl⟩
theorem CQ {H:Type} {enc:TypeId × Value->H} {w:World} {spare:Nat->Bool} {held:Bool} {fuel:Nat} {v:Value} {x:DataW H × List MemPlace} (h:DataW.trod enc Tryz.prog w 0 spare held fuel 30 [v]=some x):∃ l:List Int,RI.Has w v l:=by
 obtain⟨l,B,_⟩:=eG (good:=λ _=>True) RI (by decide) underlying30 cellsIn (λ fuel' cs y hl hy=>by
  match cs,hl with
  | [y0],_ =>
   obtain⟨C,A,_,D⟩:=DataW.trod_int underlying3 hy;simp only[YY,and_true]at A;exact⟨C,by rw[A];rfl,trivial⟩) h
 exact⟨l,B⟩
theorem xq {H:Type} {enc:TypeId × Value->H} {w:World} {spare:Nat->Bool} {held:Bool} {fuel:Nat} {v:Value} {x:DataW H × List MemPlace} (h:DataW.trod enc Tryz.prog w 0 spare held fuel 32 [v]=some x):∃ l:List E,RE.Has w v l:=by
 obtain⟨T,W,Y,a,U,V,M,K,N,O⟩:=structEd;obtain⟨l,P,_⟩:=eG (good:=λ _=>True) RE (by decide) underlying32 cellsEd (λ fuel' cs y hl hy=>by
  obtain⟨Z,k,b,S,_,B,A⟩:=DataW.trod_struct a hy
  match cs,hl,Z,B with
  | [v0,v1,v2],_,[y0,y1,y2],_ =>
   have F:=A 0 T rfl;have D:=A 1 W rfl;have I:=A 2 Y rfl;simp[K,N,O,U,V,M,cellsIn]at F D I;obtain⟨L,C,_⟩:=DataW.trod_int underlying3 F;obtain⟨X,J,_⟩:=DataW.trod_int underlying3 D;obtain⟨R,G,_⟩:=DataW.trod_int underlying3 I;simp only[YY,and_true]at C J G;exact⟨⟨L,X,R⟩,by rw[C,J,G];rfl,trivial⟩) h
 exact⟨l,P⟩
theorem td {H:Type} {enc:TypeId × Value->H} {w:World} {spare:Nat->Bool} {held:Bool} {fuel:Nat} {v:Value} {x:DataW H × List MemPlace} (h:DataW.trod enc Tryz.prog w 0 spare held fuel 31 [v]=some x):∃ l:List Ld,RL.Has w v l:=by
 obtain⟨g,s,hs,p,r,V,Y⟩:=structLd;obtain⟨q,f,z,c,i,X,j,m,n,T,Z,e,U⟩:=structPl;obtain⟨l,a,_⟩:=eG (good:=λ _=>True) RL (by decide) underlying31 cellsLd (λ fuel' cs y hl hy=>by
  obtain⟨xs,k,hk,d,_,D,B⟩:=DataW.trod_struct hs hy
  match cs,hl,xs,D with
  | [v0,v1,v2,v3,v4],_,[y0,y1],_ =>
   have K:=B 0 g rfl;have J:=B 1 s rfl;simp[V,Y,p,r,cellsIn,cellsPl]at K J;obtain⟨W,G,_⟩:=DataW.trod_int underlying3 K;obtain⟨zs,k2,o,P,_,C,A⟩:=DataW.trod_struct i J
   match zs,C with
   | [z0,z1,z2,z3],_ =>
    have R:=A 0 q rfl;have N:=A 1 f rfl;have S:=A 2 z rfl;have F:=A 3 c rfl;simp[T,Z,e,U,X,j,m,n,cellsIn,cellsBo]at R N S F;obtain⟨b0,L,_⟩:=DataW.trod_bool underlying4 R;obtain⟨t,M,_⟩:=DataW.trod_int underlying3 N;obtain⟨b,O,_⟩:=DataW.trod_int underlying3 S;obtain⟨n3,I,_⟩:=DataW.trod_int underlying3 F;simp only[YY,and_true]at G L M O I;exact⟨⟨W,b0,t,b,n3⟩,by rw[G,L,M,O,I];rfl,trivial⟩) h
 exact⟨l,a⟩
theorem Bq {H:Type} {enc:TypeId × Value->H} {W:World} {base:Nat} {v:Value} {d:DataW H} {p:List MemPlace} (hval:Value.okWide Tryz.prog W .any base 34 v) (h:DataW.Trod enc Tryz.prog W 0 (λ _=>true) true 34 v d p) :
  ∃ (t:Tk) (vg vk vc vf vb:Value),v=.agg #[vg,vk,vc,vf,vb]/\HasQ W vg t.ground/\HasQQ W vk t.kinds/\RI.Has W vc t.counts/\RL.Has W vf t.fixed/\RE.Has W vb t.below:=by
 obtain⟨x,f1,f2,f3,y,V,z,t1,l,m,n,i,o,q,o3,Z⟩:=structTa;have R:=hval;simp only[Value.okWide,V]at R;obtain⟨s,rfl,C,ts,J,_,B⟩:=R;rw[cellsTa]at C;obtain⟨X,hf⟩:=h;obtain⟨xs,k,hk,r,_,I,A⟩:=DataW.trod_struct V hf
 match s,C,xs,I with
 | ⟨[v0,v1,v2,v3,v4]⟩,_,[y0,y1,y2,y3,y4],_ =>
  have S:=A 0 x rfl;have P:=A 1 f1 rfl;have U:=A 2 f2 rfl;have O:=A 3 f3 rfl;have T:=A 4 y rfl;have cQ:Tryz.prog.cellsOf 22=1:=by kernel_rfl
  have cK:Tryz.prog.cellsOf 29=1:=by kernel_rfl
  have cI:Tryz.prog.cellsOf 30=1:=by kernel_rfl
  have cL:Tryz.prog.cellsOf 31=1:=by kernel_rfl
  have cE:Tryz.prog.cellsOf 32=1:=by kernel_rfl
  simp[i,o,q,o3,Z,z,t1,l,m,n,cQ,cK,cI,cL,cE,Value.cells]at S P U O T;have D:ts=[22,29,30,31,32]:=YX (J.symm.trans (by kernel_rfl));obtain⟨u,M,F⟩:=B 1 v1 rfl;rw[D]at M;simp at M;subst M;obtain⟨g,j⟩:=nC S;obtain⟨Y,G⟩:=rK (λ a len cap e=>by
   subst e;exact xx underlying29 (by simp only[Value.okWide,underlying29];exact F)) P
  obtain⟨c,N⟩:=CQ U;obtain⟨f,K⟩:=td O;obtain⟨b,L⟩:=xq T;exact⟨⟨g,Y,c,f,b⟩,v0,v1,v2,v3,v4,rfl,j,G,N,K,L⟩
def zbi:List (String × DataW Unit):=[("math/bits.deBruijn32tab",Rows.laid_math_bits_deBruijn32tab),("math/bits.deBruijn64tab",Rows.laid_math_bits_deBruijn64tab),("internal/strconv.uint64pow10",Rows.laid_internal_strconv_uint64pow10)]
theorem oB:(zbi.all λ x=>x.2.handleName?.isNone)=true:=by kernel_rfl
theorem vJ (os:Os) (args:Array Value):laidMetH Tryz.prog zbi ((laidWorld6 os).forCall (λ _ _=>0) ⟨#[],args,[]⟩).memory:=by
 rw[MakeChecks.laidMetH_plain _ _ _ oB];exact laidMet_of_run' 8 (by kernel_rfl) (by kernel_rfl)
theorem AI {W:World} (h:laidMetH Tryz.prog zbi W):TbAt W:=by
 rw[MakeChecks.laidMetH_plain _ _ _ oB]at h;exact Ah (l:=zbi) (by unfold zbi;exact .tail _ (.head _)) h
end Go.Proofs.YtiinlplgloaanaaGreatDoor
namespace Go.Proofs.YtiinlplgloaanaaGreatDoor
open Go.Proofs.Tryz Go.RowKit
attribute [local go_sem] Oper.semAt_some
theorem Cq (l g:List Q) (u v:Value) (w:World) (hu:HasQ w u l) (hv:HasQ w v g) :
  Calls Tryz.prog 30 #[u,v] w λ e w'=>∃ x,e=.returned (.tuple #[x,.int .i64 (placesC l g).2])/\HasP w' x (placesC l g).1/\Below w.heap.size w w'/\(∀ k,x.ownBlock=some k->w.heap.size<=k):=by
 obtain⟨up,uc,rfl⟩:=hu.slice;obtain⟨vp,vc,rfl⟩:=hv.slice;have HU:=yK hu;clear hu;have HV:=yK hv;clear hv;have G7:=@run_makeMap Tryz.prog;refine aR func30 rfl ?_;simp only[ntmps30,YK,yA,yN,Nat.reduceAdd,Nat.reduceSub,YS,YR,km,YV,Yj,Yf];gi_wp2_with fail;have D7:Boxed (w.alloc (.cells #[.slice none 0 0] 75)) w.heap.size 75 (.slice none 0 0):=yd w _;have Z:Below w.heap.size w (w.alloc (.cells #[.slice none 0 0] 75)):=(yf _ w).alloc (ye _) _;have B8:=oZ [l,g] _ _ (AZ (HU.o.below Z) (HV.o.below Z));rw[yp]at B8;have D9:=yK B8;clear B8;have E0:Below w.heap.size w ((w.alloc (.cells #[.slice none 0 0] 75)).alloc (.cells #[.slice up l.length uc,.slice vp g.length vc] 22)):=Z.alloc (by simp) _;have B9:=heapO (.cells #[.slice up l.length uc,.slice vp g.length vc] 22) D7;refine zy.2 (D9.o.mono ?_);rintro e w1 ⟨rfl,C9⟩;have hR:Boxed w1 w.heap.size 75 (.slice none 0 0):=(C9.block _ (ya.1 B9).1).trans B9;have Y:Below w.heap.size w w1:=E0.tm C9;have D6:w.heap.size<w1.heap.size:=hR.lt;clear D9 D7 Z E0 B9 C9;by_cases hc0:checks [l,g]=0
 case neg =>
  have E2:((checks [l,g]:Int) != 0)=true:=by simpa using hc0
  have HC:Hid (placesC l g=([],checks [l,g])):=yK (by rw[placesC,Yz hc0]);have J0:=hR.cell;have I9:=hR.frozen;clear hc0;gi_wp2_with fail;refine⟨[],rfl,List.nodup_nil,λ D hD=>(by cases hD),λ w' ht=>?_⟩;have H:Boxed (w1.setCell ⟨w.heap.size,0,none⟩ (.slice none 0 0)) w.heap.size 75 (.slice none 0 0):=Boxed.set _ hR;refine⟨_,results_cell_tmp rfl isAgg75 _ _ w.heap.size (.slice none 0 0) (.int .i64 (checks [l,g]:Nat)) rfl (qY H ht (by simp)) rfl,.slice none 0 0,by rw[HC.o],by rw[HC.o];exact .inl ⟨rfl,rfl⟩,(Y.setCell (ye _) _).trans (ht.below (by simp)),λ k e=>by cases e⟩
 have E2:((checks [l,g]:Int) != 0)=false:=by simpa using hc0
 have B7:=yK hc0;clear hc0;have D8:=qj (fw B7.o l (by simp));have G2:=qj (fw B7.o g (by simp));have m:=yK D8;clear D8;have HG:=yK G2;clear G2;gi_wp2_with fail;refine zy.2 ((iL g HG.o.1.1 _ w1 (HV.o.below Y)).mono ?_);rintro e w2 ⟨rfl,C6⟩;have C2:Boxed w2 w.heap.size 75 (.slice none 0 0):=(C6.block _ hR.lt).trans hR;have B3:Below w.heap.size w w2:=Y.tm C6;have M:w.heap.size<w2.heap.size:=C2.lt;clear hR Y C6 D6;have q:=gR w2 (.map #[] 0) (.cells zeroCells120 120) (.cells #[.map none] 153);have F1:HasG (((w2.alloc (.map #[] 0)).alloc (.cells zeroCells120 120)).alloc (.cells #[.map none] 153)) (w2.heap.size+1) zeroG:=by
  have:=q.2.1;rw[wI]at this;exact this
 have F5:=heapO (.cells #[.map none] 153) (heapO (.cells zeroCells120 120) (heapO (.map #[] 0) C2));have h8:Boxed ((((w2.alloc (.map #[] 0)).alloc (.cells zeroCells120 120)).alloc (.cells #[.map none] 153)).setRow (w2.heap.size+1) (gridA (layG g))) (w2.heap.size+1+1) 153 (.map none):=(setRow_other _ _ _ _ (by omega)).trans q.2.2.1;have c8:=h8.cell;have f8:=h8.frozen;unfold gridV
 gi_upto_region 5 with(refine zA rfl 120 _ _ rfl (w2.heap.size+1) rfl 120 _ (gridA (layG g)) rfl q.2.1 (by rw[size_gridA];exact sizeG) (by rw[zT,size_gridA,size_gridA]) (zK _) ?_)
 clear c8 f8;have F0:Hid (HasM gridV (((((w2.alloc (.map #[] 0)).alloc (.cells zeroCells120 120)).alloc (.cells #[.map none] 153)).setRow (w2.heap.size+1) (gridA (layG g))).setCell ⟨w2.heap.size+1+1,0,none⟩ (.map (some w2.heap.size))) w2.heap.size (setM []) /\
   HasG (((((w2.alloc (.map #[] 0)).alloc (.cells zeroCells120 120)).alloc (.cells #[.map none] 153)).setRow (w2.heap.size+1) (gridA (layG g))).setCell ⟨w2.heap.size+1+1,0,none⟩ (.map (some w2.heap.size))) (w2.heap.size+1) (layG g) /\
   Boxed (((((w2.alloc (.map #[] 0)).alloc (.cells zeroCells120 120)).alloc (.cells #[.map none] 153)).setRow (w2.heap.size+1) (gridA (layG g))).setCell ⟨w2.heap.size+1+1,0,none⟩ (.map (some w2.heap.size))) (w2.heap.size+1+1) 153 (.map (some w2.heap.size)) /\
   Boxed (((((w2.alloc (.map #[] 0)).alloc (.cells zeroCells120 120)).alloc (.cells #[.map none] 153)).setRow (w2.heap.size+1) (gridA (layG g))).setCell ⟨w2.heap.size+1+1,0,none⟩ (.map (some w2.heap.size))) w.heap.size 75 (.slice none 0 0) /\
   Below w.heap.size w (((((w2.alloc (.map #[] 0)).alloc (.cells zeroCells120 120)).alloc (.cells #[.map none] 153)).setRow (w2.heap.size+1) (gridA (layG g))).setCell ⟨w2.heap.size+1+1,0,none⟩ (.map (some w2.heap.size))) /\
   (((((w2.alloc (.map #[] 0)).alloc (.cells zeroCells120 120)).alloc (.cells #[.map none] 153)).setRow (w2.heap.size+1) (gridA (layG g))).setCell ⟨w2.heap.size+1+1,0,none⟩ (.map (some w2.heap.size))).heap.size=w2.heap.size+3):=by
  refine yK ⟨?_,?_,Boxed.set _ h8,?_,?_,?_⟩
  ·exact(yq _ _ _ _ (by simp;omega)).trans ((setRow_other _ _ _ _ (by omega)).trans q.1)
  ·exact(yq _ _ _ _ (by simp)).trans (setRow_heap _ _ _ _ _ _ F1)
  ·exact(yq _ _ _ _ (by simp;omega)).trans ((setRow_other _ _ _ _ (by omega)).trans F5)
  ·exact(zi (B3.trans (q.2.2.2.1.mono (by omega))) (by omega) _).setCell (by simp;omega) _
  ·simp
 clear h8 q F1 F5 C2 B3;revert F0;generalize (((((w2.alloc (.map #[] 0)).alloc (.cells zeroCells120 120)).alloc (.cells #[.map none] 153)).setRow (w2.heap.size+1) (gridA (layG g))).setCell ⟨w2.heap.size+1+1,0,none⟩ (.map (some w2.heap.size)))=W0;intro F0;revert M F0;generalize w2.heap.size=m0;intro M F0;clear G7 E2;gi_wp2_with fail;refine zy.2 ((iL l m.o.1.1 _ W0 (HU.o.below F0.o.2.2.2.2.1)).mono ?_);rintro e w3 ⟨rfl,S⟩;have C1:m0+3<=w3.heap.size:=by have:=S.size;have:=F0.o.2.2.2.2.2;omega
 have F3:Hid (∀ b W',w3.heap.size<=b->Ext w3.heap.size w3 W'->plI w m0 l g [b] 0 W'):=yK (by
  intro b W' hb hE;obtain⟨f1,f2,f3,f4,f5,f6⟩:=F0.o;have h0:plI w m0 l g [b] 0 w3:=⟨[],.slice none 0 0,f1.below S,⟨List.nodup_nil,λ x=>by simp⟩,f2.below S,(S.block _ f3.lt).trans f3,(S.block _ f4.lt).trans f4,kz _ _ _ _,⟨YB _,by simp[Value.ownBlock]⟩,f5.tm S⟩;exact gq C1 M l g [b] 0 _ _ h0 hE)
 clear F0 S;gi_wp2_with fail;refine rF (ro:=none) (gf:=70) (mk:=λ y=>#[gridV (layG l),y]) (xs:=wayXs (layG l)) ?hro ?hg (xA (layG l) (qZ m.o.1.1)) ?hps
  (λ b k W=>plI w m0 l g [b] k W) (λ _ _=>False) (λ b k=>gq C1 M l g [b] k) (λ _=>Stab.false _) F3.o ?round ?done ?stop
 case hro=>intro l0 h;cases h
 case hg=>exact zb (g:=layG l) rfl
 case hps=>intro x s;rw[sB x s];rfl
 case round =>
  intro b l0 k x W o s hI hl hlb hl2 hob hoc;obtain⟨hk,rfl⟩:=vH s;simp only[au,yr,yF,yE];have I7:b<W.heap.size:=(ya.1 hob).1;have HI:=yK hI;clear hI s;have I5:w3.heap.size<=W.heap.size:=by omega
  have H:((W.alloc (.cells #[.bool (decide (4<=k)),.int .i64 ((k:Int) % 4),.int .i64 0,.int .i64 0] 45)).alloc (.cells zeroCells120 120)).setRow (W.heap.size+1) (gridA (imgG (layG l) (wayN k))) =
    (W.alloc (.cells #[.bool (decide (4<=k)),.int .i64 ((k:Int) % 4),.int .i64 0,.int .i64 0] 45)).alloc (.cells (gridA (imgG (layG l) (wayN k))) 120):=by
   have:=World.setRow_alloc_new (W.alloc (.cells #[.bool (decide (4<=k)),.int .i64 ((k:Int) % 4),.int .i64 0,.int .i64 0] 45)) zeroCells120 (gridA (imgG (layG l) (wayN k))) 120;rwa [yp]at this
  have F4:=yK H;clear H;have A6:((W.alloc (.cells #[.bool (decide (4<=k)),.int .i64 ((k:Int) % 4),.int .i64 0,.int .i64 0] 45)).alloc (.cells zeroCells120 120)).heap[W.heap.size+1]?=some (.cells zeroCells120 120):=by
   have:=yd (W.alloc (.cells #[.bool (decide (4<=k)),.int .i64 ((k:Int) % 4),.int .i64 0,.int .i64 0] 45)) (.cells zeroCells120 120);rwa [yp]at this
  have F7:=yK A6;clear A6;unfold gridV;gi_wp2_with (refine zA rfl 120 _ _ rfl (W.heap.size+1) rfl 120 _ (gridA (imgG (layG l) (wayN k))) rfl F7.o (by rw[size_gridA];exact sizeG) (by rw[zT,size_gridA,size_gridA]) (zK _) ?_;rw[F4.o]);refine⟨λ W'=>plI w m0 l g [b,W.heap.size,W.heap.size+1] k W'/\W'.heap[W.heap.size]?=some (.cells #[.bool (decide (4<=k)),.int .i64 ((k:Int) % 4),.int .i64 0,.int .i64 0] 45)/\HasG W' (W.heap.size+1) (imgG (layG l) (wayN k)),
   Stab.and (gq C1 M l g [b,W.heap.size,W.heap.size+1] k) (Stab.and (Stab.cells _ _ _ _ _) (Stab.hasG _ _ _)),?_,?_,?_,?_⟩
  ·exact⟨by simp only[yp];omega,λ k o' _ hk _=>heapO _ (heapO _ hk)⟩
  ·obtain⟨L,v,a1,a2,a3,a4,a5,a6,a7,a8⟩:=HI.o;refine⟨⟨L,v,(a1.alloc _).alloc _,a2,(a3.alloc _).alloc _,heapO _ (heapO _ a4),heapO _ (heapO _ a5),(World.ownsRow.alloc a6 _).alloc _,⟨a7.1,λ c hc=>?_⟩,(a8.alloc a8.size _).alloc (by have:=a8.size;rw[yp];omega) _⟩,heapO _ (yd W _),?_⟩
   ·simp only[Yd,ki,or_false]at hc;rcases hc with rfl|rfl|rfl
    ·exact a7.2 _ (by simp)
    ·intro e;have:=(a6.lt _ e).2;omega
    intro e;have:=(a6.lt _ e).2;omega
   have:=HasG.new (W.alloc (.cells #[.bool (decide (4<=k)),.int .i64 ((k:Int) % 4),.int .i64 0,.int .i64 0] 45)) (imgG (layG l) (wayN k));rwa [yp]at this
  ·exact heapO _ (heapO _ hob)
  rintro W2 ⟨⟨L,v,hM,hLm,hGr,h8,hRes,hOwn,hCnt,hBel⟩,hPl,hIm⟩ hl3 hob2;have I8:m0<b:=by omega
  have D1:∀ x∈L,okG x:=λ x s=>by
   obtain⟨i,_,rfl⟩:=(hLm.2 x).1 s;exact aq (qZ m.o.1.1) _
  have R:∀ p∈setM L,okG p.1:=λ p F=>by
   obtain⟨x,s,rfl⟩:=yP.1 F;exact D1 x s
  have c8:=h8.cell;have V:=Cu m.o.1 m.o.2.1 k;by_cases hin:imgG (layG l) (wayN k)∈L
  ·have C:=zB encG underlying153 hM R (by rw[iJ];exact hLm.1) (yP.2 ⟨_,hin,rfl⟩) false;have HP:Hid (partW l g (k+1)=partW l g k):=yK (Cx (V.2 ((hLm.2 _).1 hin)));have H7:Hid (plI w m0 l g [b] (k+1) W2):=yK ⟨L,v,hM,⟨hLm.1,λ x=>by
     rw[hLm.2 x];constructor
     ·rintro⟨i,hi,e⟩;exact⟨i,by omega,e⟩
     rintro⟨i,hi,e⟩;by_cases hik:i=k
     ·subst hik;obtain⟨j,hj,ej⟩:=(hLm.2 _).1 hin;exact⟨j,hj,ej.trans e⟩
     exact⟨i,by omega,e⟩⟩,hGr,h8,hRes,by rw[HP.o];exact hOwn,⟨by rw[HP.o];have:=hCnt.1;omega,λ c hc=>hCnt.2 c (by simp at hc;simp[hc])⟩,hBel⟩
   unfold gridV at C;simp only[Yn,if_false]at C;clear D1 R V hin hLm hM hGr h8 hRes hOwn hCnt hBel;gi_wp2_with (refine qi rfl 120 _ rfl (W.heap.size+1) rfl 120 _ (0,0) _ hIm underlying120 rfl (by rw[size_gridA];exact sizeG) ?_);exact⟨KeepsFrom.refl _ _,H7.o,hob2⟩
  have C:=zN encG underlying153 (zeroValue4 W2) hM R (aq (qZ m.o.1.1) (wayN k)) (λ p F e=>hin (by
   obtain⟨x,s,rfl⟩:=yP.1 F;rw[<- e];exact s)) false
  have J:=zY encG underlying153 hM R (aq (qZ m.o.1.1) (wayN k)) (λ p F e=>hin (by
   obtain⟨x,s,rfl⟩:=yP.1 F;rw[<- e];exact s)) (.bool true)
  have G4:setM L++[(imgG (layG l) (wayN k),Value.bool true)]=setM (L++[imgG (layG l) (wayN k)]):=by simp[setM]
  rw[G4]at J;have HP:Hid (partW l g (k+1)=partW l g k++atW l g (wayN k)):=yK (tK (λ h=>hin ((hLm.2 _).2 (V.1 h))));have H0:Hid ((L++[imgG (layG l) (wayN k)]).Nodup/\∀ x,x∈L++[imgG (layG l) (wayN k)]↔∃ i,i<k+1/\imgG (layG l) (wayN i)=x):=yK ⟨ko.2 ⟨hLm.1,by simp,λ a ha b hb e=>hin (by rw[<- yU.1 hb,<- e];exact ha)⟩,λ x=>by
   simp only[yY,yU,hLm.2 x];constructor
   ·rintro (⟨i,hi,e⟩|rfl)
    ·exact⟨i,by omega,e⟩
    exact⟨k,by omega,rfl⟩
   rintro⟨i,hi,e⟩;by_cases hik:i=k
   ·subst hik;exact .inr e.symm
   exact .inl ⟨i,by omega,e⟩⟩
  have G1:PB w W2 W2 w3.heap.size m0 W.heap.size (W.heap.size+1) b o g L (imgG (layG l) (wayN k)) v (partW l g k):=⟨hM,hGr,h8,hRes,hOwn,hIm,hob2,KeepsFrom.refl _ _,hBel,λ c hc=>⟨λ e=>hCnt.2 b (by simp) (e▸hc),λ e=>hCnt.2 _ (by simp) (e▸hc),λ e=>hCnt.2 (W.heap.size+1) (by simp) (e▸hc)⟩,by omega⟩;have P:=G1.put (by omega) (L++[imgG (layG l) (wayN k)]);have d:=(zt (enc:=gridV) W2 (show W.heap.size≠m0 by omega) (setM (L++[imgG (layG l) (wayN k)]))).trans hPl;have E3:=yK hCnt.1;have U:=P.img;unfold gridV at C;revert J P d U;generalize putM gridV W2 m0 (setM (L++[imgG (layG l) (wayN k)]))=W4;intro J P d U;unfold gridV at J;simp only[Yn,if_false]at C;have G3:=yK P;have D2:=yK d;clear D1 R V hin hLm hM hGr h8 hRes hOwn hCnt hBel G4 G1 P hPl d;gi_wp2_with (first
   | (refine qi rfl 120 _ rfl (W.heap.size+1) rfl 120 _ (0,0) _ hIm underlying120 rfl (by rw[size_gridA];exact sizeG) ?_)
   | (refine qi rfl 120 _ rfl (W.heap.size+1) rfl 120 _ (0,0) _ U underlying120 rfl (by rw[size_gridA];exact sizeG) ?_))
  refine zy.2 ((gT (imgG (layG l) (wayN k)) W4).mono ?_);rintro e W5 ⟨rfl,hB5⟩;have B1:=yK (G3.o.keep hB5);have A7:=yK ((hB5.block _ (ya.1 D2.o).1).trans D2.o);clear J C hIm U G3 D2 hB5;have C8:=width_le (imgG (layG l) (wayN k));have H4:=ef (imgG (layG l) (wayN k));unfold gridV;gi_wp2_with (refine zA rfl 120 _ _ rfl W5.heap.size rfl 120 _ (gridA (movedG (imgG (layG l) (wayN k)))) rfl (yd W5 _) (by rw[size_gridA];exact sizeG) (by rw[zT,size_gridA,size_gridA]) (zK _) ?_;rw[World.setRow_alloc_new]);have A4:Below W5.heap.size W5 (W5.alloc (.cells (gridA (movedG (imgG (layG l) (wayN k)))) 120)):=(yf _ W5).alloc (ye _) _;have A0:=yK (B1.o.keep A4);have A5:=yK ((A4.block _ (ya.1 A7.o).1).trans A7.o);clear A4 B1 A7;revert A0 A5;generalize W5.alloc (.cells (gridA (movedG (imgG (layG l) (wayN k)))) 120)=W6;intro A0 A5;obtain⟨Hn,F6,B2⟩:∃ n:Nat,(16:Int)-(heightG (imgG (layG l) (wayN k)):Nat)+1=n/\n=16-heightG (imgG (layG l) (wayN k))+1:=⟨_,by omega,rfl⟩;obtain⟨r,F2,B4⟩:∃ n:Nat,(16:Int)-(widthG (imgG (layG l) (wayN k)):Nat)+1=n/\n=16-widthG (imgG (layG l) (wayN k))+1:=⟨_,by omega,rfl⟩;rw[F6];have D5:=yK B2;have E9:=yK B4;have I4:Hn<=17:=by omega
  have I6:r<=17:=by omega
  have G8:=yK F2;clear F6 B2 B4 C8 H4 F2
  gi_loopw [43] (λ z wr=>∃ (j:Nat) (u:Value) (x0 y0:Int),j<=Hn/\z=.int .i64 j/\Hid (PB w W2 wr w3.heap.size m0 W.heap.size (W.heap.size+1) b o g (L++[imgG (layG l) (wayN k)]) (imgG (layG l) (wayN k)) u (partW l g k++rowsP l g (wayN k) r j) /\
   wr.heap[W.heap.size]?=some (.cells #[.bool (decide (4<=k)),.int .i64 ((k:Int) % 4),.int .i64 x0,.int .i64 y0] 45)/\(partW l g k++rowsP l g (wayN k) r j).length<=289*k+17*j)) (λ z _=>Hn-(intOf z).toNat)
  case atStart=>exact⟨0,v,0,0,by omega,rfl,yK ⟨by simpa[rowsP]using A0.o,A5.o,by simpa[rowsP]using E3.o⟩⟩
  obtain⟨j,u,x0,y0,hj,rfl,t⟩:=hrel;by_cases hlt:j<Hn
  ·have G:=t.o.2.1;have d3:wr.cell? ⟨W.heap.size,3,none⟩=some (.int .i64 y0):=(by simp[World.cell?,G]);have f3:wr.frozen? ⟨W.heap.size,3,none⟩=false:=(by simp[World.frozen?,G]);have C8:=width_le (imgG (layG l) (wayN k));have A3:=yK (t.o.1.cell G 3 (.int .i64 j));have A1:=yK (wm G (.int .i64 j));have F9:=yK t.o.2.2;clear G t;gi_wp2_with fail;rw[G8.o];clear d3 f3 C8;revert A3 A1;generalize wr.setCell ⟨W.heap.size,3,none⟩ (.int .i64 j)=W7;intro A3 A1
   gi_loopw [50] (λ z wr=>∃ (i:Nat) (u:Value) (x0:Int),i<=r/\z=.int .i64 i/\Hid (PB w W2 wr w3.heap.size m0 W.heap.size (W.heap.size+1) b o g (L++[imgG (layG l) (wayN k)]) (imgG (layG l) (wayN k)) u ((partW l g k++rowsP l g (wayN k) r j)++rowP l g (wayN k) j i) /\
    wr.heap[W.heap.size]?=some (.cells #[.bool (decide (4<=k)),.int .i64 ((k:Int) % 4),.int .i64 x0,.int .i64 j] 45)/\((partW l g k++rowsP l g (wayN k) r j)++rowP l g (wayN k) j i).length<=289*k+17*j+i)) (λ z _=>r-(intOf z).toNat)
   case atStart=>exact⟨0,u,x0,by omega,rfl,yK ⟨by simpa[mJ]using A3.o,A1.o,by simpa[mJ]using F9.o⟩⟩
   obtain⟨i,u,x0,hi,rfl,t⟩:=hrel;by_cases hli:i<r
   ·have G:=t.o.2.1;have d2:wr.cell? ⟨W.heap.size,2,none⟩=some (.int .i64 x0):=(by simp[World.cell?,G]);have f2:wr.frozen? ⟨W.heap.size,2,none⟩=false:=(by simp[World.frozen?,G]);have A8:=yK (t.o.1.cell G 2 (.int .i64 i));have A9:=yK (Ao G (.int .i64 i));have B:=yK t.o.2.2;clear G t;gi_wp2_with fail;clear d2 f2;revert A8 A9;generalize wr.setCell ⟨W.heap.size,2,none⟩ (.int .i64 i)=W8;intro A8 A9;have C3:i+widthG (imgG (layG l) (wayN k))<=16:=(by have:=E9.o;have:=width_le (imgG (layG l) (wayN k));omega);have C7:j+heightG (imgG (layG l) (wayN k))<=16:=(by have:=D5.o;have:=ef (imgG (layG l) (wayN k));omega);have C5:=yK (ms m.o.1 m.o.2.1 (w:=wayN k) (Nat.mod_lt _ (by decide)) C3 C7);have B5:inG (atG (imgG (layG l) (wayN k)) i j) (layG g)=subL ((imgW l (wayN k)).map (sh i j)) g:=rW m.o.1 m.o.2.1 HG.o.1 (Nat.mod_lt _ (by decide)) C3 C7;have F8:=yK B5;clear B5 C3 C7;have D3:plS w W2 w3.heap.size m0 W.heap.size (W.heap.size+1) b o g (L++[imgG (layG l) (wayN k)]) (imgG (layG l) (wayN k)) u ((partW l g k++rowsP l g (wayN k) r j)++rowP l g (wayN k) j i) (.bool (decide (4<=k))) (.int .i64 ((k:Int) % 4)) (.int .i64 i) (.int .i64 j) W8.drew:=qb ⟨A8.o,A9.o⟩ (below_drewN _ W8 1);have H1:=yK D3;clear D3;refine AH 8 69 [] (by kernel_rfl) (by kernel_rfl) rfl (plS w W2 w3.heap.size m0 W.heap.size (W.heap.size+1) b o g (L++[imgG (layG l) (wayN k)]) (imgG (layG l) (wayN k)) u ((partW l g k++rowsP l g (wayN k) r j)++rowP l g (wayN k) j i) (.bool (decide (4<=k))) (.int .i64 ((k:Int) % 4)) (.int .i64 i) (.int .i64 j))
     (plF W.heap.size g (imgG (layG l) (wayN k)) i j) (λ _ _=>qb) (λ _ _ _ _ h _=>CF h) H1.o ?_ ?_
    ·simp only[yh,yj,heldFrom,heldAt];refine⟨?_,?_,?_,?_,?_,?_,?_,?_,trivial⟩
     ·intro N X vals K hI;have e:N.eval (.tmp 10)=.pointer (some ⟨W.heap.size+1,0,none⟩):=(K.was 10 (by kernel_rfl)).trans rfl;refine lu_v (I:=Instr.loadAt 120 (N.eval (.tmp 10))) rfl ?_ ⟨yf _ _,rfl⟩;rw[e];exact mr hI.1.img
     ·intro N X vals K hI;have e:N.eval (.tmp 9)=.pointer (some ⟨W.heap.size,0,none⟩):=(K.was 9 (by kernel_rfl)).trans rfl;refine lu_v (I:=Instr.fieldAt 45 (N.eval (.tmp 9)) 2) rfl ?_ ⟨yf _ _,rfl⟩;rw[e];exact vE _ _
     ·intro N X vals K hI;obtain⟨e,f⟩:=K.val 1 55 (by kernel_rfl);have f':vals 1=.pointer (some ⟨W.heap.size,2,none⟩):=f;have F:=hI.2;refine lu_v (I:=Instr.loadAt 3 (N.eval (.tmp 55))) rfl ?_ ⟨yf _ _,rfl⟩;rw[e,f'];exact qh isAgg3 (by simp[World.cell?,F])
     ·intro N X vals K hI;have e:N.eval (.tmp 9)=.pointer (some ⟨W.heap.size,0,none⟩):=(K.was 9 (by kernel_rfl)).trans rfl;refine lu_v (I:=Instr.fieldAt 45 (N.eval (.tmp 9)) 3) rfl ?_ ⟨yf _ _,rfl⟩;rw[e];exact CC _ _
     ·intro N X vals K hI;obtain⟨e,f⟩:=K.val 3 57 (by kernel_rfl);have f':vals 3=.pointer (some ⟨W.heap.size,3,none⟩):=f;have F:=hI.2;refine lu_v (I:=Instr.loadAt 3 (N.eval (.tmp 57))) rfl ?_ ⟨yf _ _,rfl⟩;rw[e,f'];exact qh isAgg3 (by simp[World.cell?,F])
     ·intro N X vals K hI;obtain⟨e1,f1⟩:=K.val 0 54 (by kernel_rfl);obtain⟨e2,f2⟩:=K.val 2 56 (by kernel_rfl);obtain⟨e3,f3⟩:=K.val 4 58 (by kernel_rfl);have g1:vals 0=gridV (imgG (layG l) (wayN k)):=f1;have g2:vals 2=.int .i64 i:=f2;have g3:vals 4=.int .i64 j:=f3;refine zS (args:=#[gridV (imgG (layG l) (wayN k)),.int .i64 i,.int .i64 j]) rfl (by simp only[Yt,yM,Yh,e1,e2,e3,g1,g2,g3]) (enters_of func52 (by kernel_rfl) rfl) ((mY _ i j C5.o X).mono ?_);rintro e w' ⟨rfl,hb⟩;exact⟨_,rfl,hb,rfl⟩
     ·intro N X vals K hI;have e:N.eval (.tmp 7)=.pointer (some ⟨m0+1,0,none⟩):=(K.was 7 (by kernel_rfl)).trans rfl;refine lu_v (I:=Instr.loadAt 120 (N.eval (.tmp 7))) rfl ?_ ⟨yf _ _,rfl⟩;rw[e];exact mr hI.1.ground
     intro N X vals K hI;obtain⟨e1,f1⟩:=K.val 5 59 (by kernel_rfl);obtain⟨e2,f2⟩:=K.val 6 60 (by kernel_rfl);have g1:vals 5=gridV (atG (imgG (layG l) (wayN k)) i j):=f1;have g2:vals 6=gridV (layG g):=f2;refine zS (args:=#[gridV (atG (imgG (layG l) (wayN k)) i j),gridV (layG g)]) rfl (by simp only[Yt,yM,Yh,e1,e2,g1,g2]) (enters_of func72 (by kernel_rfl) rfl) ((sP _ _ X).mono ?_);rintro e w' ⟨rfl,hb⟩;exact⟨_,rfl,hb,rfl⟩
    intro X vals hI hf;have g0:vals 7=.bool (inG (atG (imgG (layG l) (wayN k)) i j) (layG g)):=hf 7 (by decide);simp only[yh,yj,Yk,YD,Yj,Yf,yM,Yh,putAll,Act.put,yr,yF,yE,g0];show wpActs _ _ _ _ 0 [] _ _;refine aT ?_;have A:=yK hI;clear hI hf g0;rw[F8.o]
    cases hsub:subL ((imgW l (wayN k)).map (sh (i:Int) (j:Int))) g with
    | false =>
     have B0:Hid (rowP l g (wayN k) j (i+1)=rowP l g (wayN k) j i):=yK (by rw[rowP_step,hsub];simp);clear hsub;gi_wp2_with fail
     go_roundw
     case rel=>exact⟨i+1,u,i,by omega,by go_num,yK ⟨by rw[B0.o];exact A.o.1,A.o.2,by rw[B0.o];have:=B.o;omega⟩⟩
     case measure=>simp[intOf];omega
    | true =>
     have B0:Hid (rowP l g (wayN k) j (i+1)=rowP l g (wayN k) j i++[⟨(wayN k).1,(wayN k).2,i,j⟩]):=yK (by rw[rowP_step,hsub];simp);clear hsub;have C4:=A.o;have T:=B.o;have A2:∃ PL,Hid (((partW l g k++rowsP l g (wayN k) r j)++rowP l g (wayN k) j i)=PL):=⟨_,yK rfl⟩;obtain⟨PL,A2⟩:=A2;rw[A2.o]at C4 T;clear A B;have A:=yK C4;clear C4;have B:=yK T;clear T;obtain⟨D0,C0,rfl⟩:=zf A.o.1.own;have F:=A.o.2;have G0:((k:Int) % 4)=((k % 4:Nat):Int):=(by omega);have I2:=yK G0;clear G0;have e0:X.cell? ⟨W.heap.size,0,none⟩=some (.bool (decide (4<=k))):=(by simp[World.cell?,F]);have e1:X.cell? ⟨W.heap.size,1,none⟩=some (.int .i64 ((k:Int) % 4)):=(by simp[World.cell?,F]);have e2:X.cell? ⟨W.heap.size,2,none⟩=some (.int .i64 i):=(by simp[World.cell?,F]);have e3:X.cell? ⟨W.heap.size,3,none⟩=some (.int .i64 j):=(by simp[World.cell?,F]);have c4:=A.o.1.res.cell;have G5:PL.length+1<=2500:=(by have:=B.o;omega);have I1:Hid (PL.length+1<=maxLen):=yK (by simp only[maxLen];omega);have H9:Hid ((PL.length+1)*32<=140737488355328):=yK (by omega);clear G5 F;have E5:m0+3<=X.heap.size:=by
      have:=(ya.1 A.o.1.obj).1;have:=A.o.1.size.2.2.1;omega
     have H3:=yK E5;clear E5;have hO:∀ (O:Obj) (w8:World),(X.alloc O).grownBy w8 (Value.slice D0 PL.length C0).ownBlock->Boxed w8 w.heap.size 75 (Value.slice D0 PL.length C0):=λ O w8 hg =>
      (hg.block _ (by have:=A.o.1.res.lt;simp;omega) (λ e=>by have:=(World.ownsRow.lt A.o.1.own _ e.symm).1;have:=A.o.1.size.2.2.2.2.2.2;omega)).trans (heapO _ A.o.1.res)
     have HO:=yK hO;clear hO;obtain⟨iP,H5,G6,G9,I3⟩:=info_parts infoP;have E7:∀ (j':Nat) (u':Value),(pVals ⟨decide (4<=k),k % 4,i,j⟩)[j']?=some u'->(X.alloc (.cells #[.bool (decide (4<=k)),.int .i64 ((k:Int) % 4),.int .i64 i,.int .i64 j] 45)).cell? ((⟨X.heap.size,0,none⟩:Addr).add j')=some u':=by
      rw[I2.o];exact rR ⟨decide (4<=k),k % 4,i,j⟩
     have I0:=yK E7;clear E7;gi_wp2_with (first
      | (gi_at_builtin;refine wpListIn_append_own_at _ rfl _ _ 75 rfl (m0+3) 45 iP _ 4 32 underlying75 H5 G6 G9 I3 rfl (by decide) (Value.slice D0 PL.length C0) PL.length (pCells PL) rfl (World.ownsRow.alloc A.o.1.own _) ⟨X.heap.size,0,none⟩ 1 1 (pVals ⟨decide (4<=k),k % 4,i,j⟩) rfl rfl I0.o (tU _) I1.o H9.o (by have:=H3.o;rw[yp];omega) ?_;intro v' w8 hown' hgrow _ hat';obtain⟨J1,J3,rfl⟩:=zf hown';have q1:=(HO.o _ _ hgrow).cell;have q2:=(HO.o _ _ hgrow).frozen))
     have B6:=A.o.1.append A.o.2 hown' hgrow hat'
     go_roundw
     case rel=>exact⟨i+1,_,i,by omega,by go_num,yK ⟨by rw[B0.o,<- kw,A2.o];exact B6.1,B6.2,by rw[B0.o,<- kw,A2.o,yL];have:=B.o;simp only[List.length_singleton];omega⟩⟩
     case measure=>simp[intOf];omega
   obtain rfl:i=r:=(by omega);have HF:=yK t.o;gi_wp2_with fail
   go_roundw
   case rel=>exact⟨j+1,u,x0,j,by omega,by go_num,yK ⟨by rw[pz,<- kw];exact HF.o.1,HF.o.2.1,by rw[pz,<- kw];have:=HF.o.2.2;omega⟩⟩
   case measure=>simp[intOf];omega
  obtain rfl:j=Hn:=by omega
  have HF:=yK t.o;clear t;gi_wp2_with fail;have E6:=iM m.o.1 m.o.2.1 (w:=wayN k) (Nat.mod_lt _ (by decide));have D4:rowsP l g (wayN k) r j=atW l g (wayN k):=by
   rw[<- tC,E9.o,D5.o,<- E6.1,<- E6.2,YI,YI]
  have F:=HF.o.1;have E8:=HF.o.2.2;rw[D4,<- HP.o]at F E8;exact⟨F.keeps,⟨_,u,F.map,H0.o,F.ground,F.box,F.res,F.own,⟨by omega,λ c hc e=>by simp at hc;subst hc;exact(F.apart _ e).1 rfl⟩,F.below⟩,F.obj⟩
 case done =>
  intro b ds W hM ⟨L,v,a1,a2,a3,a4,hRes,hOwn,a7,hBel⟩;obtain⟨D,hD,rfl,hK⟩:=hM;obtain⟨H2,H6,rfl⟩:=zf hOwn;have c4:=hRes.cell;have f4:=hRes.frozen;have E1:Hid (placesC l g=(partW l g (wayXs (layG l)).length,0)):=yK (by rw[placesC,Yy (λ h=>h B7.o),fV,xP]);clear a1 a2 a3 a4 a7;have J2:w3.heap.size<=D:=hD;gi_wp2_with fail;have H:=Boxed.set (Value.slice H2 (partW l g (wayXs (layG l)).length).length H6) hRes;have E4:w.heap.size≠D:=by omega
  refine⟨[D],rfl,by simp,?_,λ w' tk=>?_⟩
  ·simp only[yU,forall_eq];rw[yq _ _ _ _ (by simpa using E4.symm)];exact hK
  refine⟨_,results_cell_tmp rfl isAgg75 _ _ w.heap.size _ (.int .i64 0) rfl (qY H tk (by simpa using E4)) rfl,_,by rw[E1.o];rfl,?_,(hBel.setCell (ye _) _).trans (tk.below (by simp;omega)),λ k e=>by have h1:=(hOwn.lt k e).1;omega⟩;rw[E1.o];refine HasP.move (OwnP.has hOwn) (λ c hc=>?_);have h1:=(hOwn.lt c hc).1;have H8:c≠D:=by
   rintro rfl;rcases hOwn.2 with⟨hn,_⟩|⟨g',cap,cur,hn,_,h2,_⟩
   ·rw[hn]at hc;cases hc
   rw[hn]at hc;simp only[Value.ownBlock,yo]at hc;subst hc;rw[hK]at h2;cases h2
  exact(tk.block c (by simpa using H8)).trans (yq _ _ _ _ (by simp;omega))
 case stop =>
  rintro ds c W _ h;exact h.elim
structure OwnPP (W:World) (base:Nat) (pv:Value) (vs:List Value) (ps:List (List HP)):Prop where
 own:W.ownsRow base 102 1 pv ps.length vs
 len:vs.length=ps.length
 each:∀ (i:Nat) (u:Value) (l:List HP),vs[i]?=some u->ps[i]?=some l->RP.Own W base u l
 apart:∀ (i j:Nat) (u v:Value),i≠j->vs[i]?=some u->vs[j]?=some v->∀ k,u.ownBlock=some k->v.ownBlock≠some k
theorem vO (W:World) (base:Nat):OwnPP W base (.slice none 0 0) [] []:=⟨kz W base _ 1,rfl,λ i u l h=>by simp at h,λ i j u v _ h=>by simp at h⟩
theorem OwnPP.below {W W':World} {base:Nat} {pv:Value} {vs:List Value} {ps:List (List HP)} (h:OwnPP W base pv vs ps) (e:Bw W W'):OwnPP W' base pv vs ps :=
 ⟨qf h.own e,h.len,λ i u l hu hl=>qf (h.each i u l hu hl) e,h.apart⟩
theorem OwnPP.cell {W:World} {base:Nat} {pv:Value} {vs:List Value} {ps:List (List HP)} (h:OwnPP W base pv vs ps) {a:Addr} (ha:a.block<base) (v:Value):OwnPP (W.setCell a v) base pv vs ps :=
 ⟨zq h.own ha v,h.len,λ i u l hu hl=>zq (h.each i u l hu hl) ha v,h.apart⟩
theorem OwnPP.has {W:World} {base:Nat} {pv:Value} {vs:List Value} {ps:List (List HP)} (h:OwnPP W base pv vs ps):HasPP W pv vs ps:=by
 rcases h.own.2 with⟨rfl,A⟩|⟨g,cap,cur,rfl,h1,h2,h3,h4,h5,h6⟩
 ·exact .inl ⟨rfl,yT.1 A⟩
 refine .inr ⟨_,cap,rfl,h3,h4,λ _=>(ya.1 h2).1,h.len,λ i l v hl hv=>⟨?_,(h.each i v l hv hl).has⟩⟩;exact World.ownsRow.cells h.own (g:=g) rfl i v hv
theorem OwnPP.outer {W:World} {base:Nat} {pv:Value} {vs:List Value} {ps:List (List HP)} (h:OwnPP W base pv vs ps) {k:Nat} (hk:pv.ownBlock=some k) {cs:Array Value} (hc:W.heap[k]?=some (.cells cs 152 (0,0))):False:=by
 obtain⟨_,_,B,A⟩:=qg h.own hk;rw[hc]at A;simp only[yo,Yg]at A;exact kV A.2.1 (by decide)
theorem OwnPP.snoc_nil {W W':World} {base:Nat} {pv pv':Value} {vs:List Value} {ps:List (List HP)} (h:OwnPP W base pv vs ps) (hg:W.grownBy W' pv.ownBlock) (ho:W'.ownsRow base 102 1 pv' (ps.length+1) (vs++[.slice none 0 0])) :
  OwnPP W' base pv' (vs++[.slice none 0 0]) (ps++[[]]):=by
 refine⟨by rw[yL];exact ho,by simp[h.len],λ i u l hu hl=>?_,λ i j u v hij hu hv k hk=>?_⟩
 ·rcases zQ hu with hu1|⟨hi,rfl⟩
  ·rcases zQ hl with hl1|⟨hi,rfl⟩
   ·have A:=h.each i u l hu1 hl1;refine zk A λ k hk=>?_;obtain⟨_,B,D,C⟩:=qg A hk;exact hg.block k B λ e=>h.outer e.symm C
   have:=(yc.1 hu1).1;have:=h.len;omega
  have:l=[]:=by
   rcases zQ hl with hl1|⟨_,rfl⟩
   ·have:=(yc.1 hl1).1;have:=h.len;omega
   rfl
  subst this;exact RP.own_nil _ _
 ·rcases zQ hu with hu1|⟨_,rfl⟩
  ·rcases zQ hv with hv1|⟨_,rfl⟩
   ·exact h.apart i j u v hij hu1 hv1 k hk
   intro e;cases e
  cases hk
theorem OwnPP.grow {W W':World} {base g:Nat} {n c:Nat} {vs:List Value} {u u':Value} {ps:List (List HP)} {l:List HP} {p:HP} (h:OwnPP W base (.slice (some ⟨g,0,none⟩) n c) (vs++[u]) (ps++[l])) (hg:W.grownBy W' u.ownBlock)
  (ho:RP.Own W' base u' (l++[p])) (hat:u'.ownBlock=u.ownBlock\/u'.ownBlock=some W.heap.size):OwnPP (W'.setCell ⟨g,ps.length,none⟩ u') base (.slice (some ⟨g,0,none⟩) n c) (vs++[u']) (ps++[l++[p]]):=by
 have A:vs.length=ps.length:=by have:=h.len;simpa using this
 have P:(vs++[u])[vs.length]?=some u:=by simp
 have r:(ps++[l])[vs.length]?=some l:=by rw[A];simp
 have M:=h.each _ u l P r;obtain⟨A0,T,I,F⟩:=qg h.own (k:=g) rfl;have S:¬ some g=u.ownBlock:=λ e=>by
  obtain⟨_,_,f,H⟩:=qg M e.symm;exact h.outer (k:=g) rfl H
 have D:W'.heap[g]?=some (.cells I 102 (0,0)):=(hg.block g T S).trans F;have R:∀ k,u'.ownBlock=some k->k≠g:=λ k e e'=>by
  obtain⟨_,_,f,H⟩:=qg ho e;rw[e',D]at H;simp only[yo,Yg]at H;exact kV H.2.1 (by decide)
 refine⟨?_,by simp[A],λ i x m hx O=>?_,λ i j x y hij hx hy k hk=>?_⟩
 ·obtain⟨Z,z⟩:=h.own;rcases z with⟨v,_⟩|⟨g',cap,cur2,hv,h1,h2,h3,h4,h5,h6⟩
  ·cases v
  simp only[yC,yo,Addr.mk.injEq,and_true]at hv;obtain⟨rfl,s,rfl⟩:=hv;rw[F]at h2;simp only[yo,Yg,and_true]at h2;subst h2;have J:(ps++[l++[p]]).length=(ps++[l]).length:=by simp
  refine⟨by rw[J]at *;simpa[A]using Z,.inr ⟨g,c,I.setIfInBounds ps.length u',by rw[J,s],h1,yI _ _ _ _ _ _ D,by rw[J];exact h3,h4,by simpa using h5,?_⟩⟩;have N:(ps++[l]).length=ps.length+1:=by simp
  rw[J,Nat.mul_one,N];rw[Nat.mul_one,N]at h6;have U:ps.length<I.size:=by
   have o:=YA List.length h6;rw[Ye,yL]at o;simp only[Array.length_toList,List.length_singleton]at o;omega
  rw[Array.toList_setIfInBounds];have q:I.toList.take ps.length=vs:=by
   have:=YA (List.take ps.length) h6;rw[List.take_take,Nat.min_eq_left (YE _),<- A,List.take_left]at this;rw[<- A];exact this
  rw[List.take_add_one,List.take_set_of_le (ye _),q,List.getElem?_set_self (by simpa using U)];rfl
 ·by_cases hi:i=vs.length
  ·subst hi;have ex:x=u':=(by simpa using hx.symm);have t:m=l++[p]:=(by rw[A]at O;simpa using O.symm);subst ex t;exact zk ho λ k e=>yq _ _ _ _ (R k e)
  have B:vs[i]?=some x:=by
   rcases zQ hx with h|⟨h,_⟩
   ·exact h
   exact kV h hi
  have K:ps[i]?=some m:=by
   rcases zQ O with h|⟨h,_⟩
   ·exact h
   exact kV (h.trans A.symm) hi
  have C:(vs++[u])[i]?=some x:=by rw[yX (yc.1 B).1];exact B
  have d:(ps++[l])[i]?=some m:=by rw[yX (yc.1 K).1];exact K
  have L:=h.each i x m C d;refine zk L λ k e=>?_;obtain⟨_,Y,f,H⟩:=qg L e;have V:k≠g:=λ e'=>by
   rw[e',F]at H;simp only[yo,Yg]at H;exact kV H.2.1 (by decide)
  rw[yq _ _ _ _ V];exact hg.block k Y λ e'=>h.apart i vs.length x u hi C P k e e'.symm
 ·have G:∀ (i:Nat) (x:Value),i≠vs.length->(vs++[u'])[i]?=some x->(vs++[u])[i]?=some x/\∀ k,x.ownBlock=some k->k<W.heap.size:=λ i x hi hx=>by
   have B:vs[i]?=some x:=by
    rcases zQ hx with h|⟨h,_⟩
    ·exact h
    exact kV h hi
   have X:=(yc.1 B).1;have C:(vs++[u])[i]?=some x:=(by rw[yX X];exact B);obtain⟨m,O⟩:∃ m,(ps++[l])[i]?=some m:=⟨_,yb (by simp;omega)⟩;exact⟨C,λ k e=>(qg (h.each i x m C O) e).2.1⟩
  by_cases hi:i=vs.length
  ·subst hi;have ex:x=u':=(by simpa using hx.symm);subst ex;obtain⟨b,a⟩:=G j y (Ne.symm hij) hy;intro e;rcases hat with ha|ha
   ·exact h.apart _ j u y hij P b k (ha▸hk) e
   rw[ha]at hk;cases hk;have:=a _ e;omega
  obtain⟨B,C⟩:=G i x hi hx;by_cases hj:j=vs.length
  ·subst hj;have ey:y=u':=(by simpa using hy.symm);subst ey;intro e;rcases hat with ha|ha
   ·exact h.apart i _ x u hij B P k hk (ha▸e)
   rw[ha]at e;cases e;have:=C _ hk;omega
  exact h.apart i j x y hij B (G j y hj hy).1 k hk
def RB:REnc Bool:=⟨4,1,λ b=>[.bool b],λ _=>rfl,λ b u h=>by simp at h;subst h;rfl⟩
theorem nR:∀ (l:List Bool) (j:Nat),(RB.cells l)[j]?=(l[j]?).map Value.bool
 | [],j=>by simp[REnc.cells]
 | b :: l,0=>by simp[REnc.cells,RB]
 | b :: l,j+1=>by
  have:=nR l j;simp only[REnc.cells,YT]at this ⊢;rw[yW (by simp[RB])];simpa[RB]using this
theorem oA {W:World} {base:Nat} {u:Value} {l:List Bool} (h:RB.Own W base u l) {j:Nat} {b:Bool} (hb:l[j]?=some b):∃ g c,u=.slice (some ⟨g,0,none⟩) l.length c/\W.cell? ⟨g,j,none⟩=some (.bool b):=by
 have A:=(yc.1 hb).1;rcases h.2 with⟨_,B⟩|⟨g,cap,cur,rfl,h1,h2,h3,h4,h5⟩
 ·omega
 refine⟨g,cap,rfl,?_⟩;rw[World.ownsRow.cellAt h j (by show j<l.length*1;omega),nR,hb];rfl
structure OwnLs {α:Type} (R:REnc α) (T:TypeId) (W:World) (base:Nat) (pv:Value) (vs:List Value) (ps:List (List α)):Prop where
 own:W.ownsRow base T 1 pv ps.length vs
 len:vs.length=ps.length
 each:∀ (i:Nat) (u:Value) (l:List α),vs[i]?=some u->ps[i]?=some l->R.Own W base u l
def FarVs (vs:List Value):Prop:=∀ (i j:Nat) (u v:Value),i≠j->vs[i]?=some u->vs[j]?=some v->∀ k,u.ownBlock=some k->v.ownBlock≠some k
section
variable {α:Type} {R:REnc α} {T:TypeId} {W W':World} {base:Nat} {pv pv':Value} {vs:List Value} {ps:List (List α)}
theorem OwnLs.below (h:OwnLs R T W base pv vs ps) (e:Bw W W'):OwnLs R T W' base pv vs ps :=
 ⟨qf h.own e,h.len,λ i u l hu hl=>qf (h.each i u l hu hl) e⟩
theorem OwnLs.move (h:OwnLs R T W base pv vs ps) (e:∀ k,base<=k->k<W.heap.size->W'.heap[k]?=W.heap[k]?):OwnLs R T W' base pv vs ps :=
 ⟨zk h.own λ k hk=>e k (qg h.own hk).1 (qg h.own hk).2.1,h.len,λ i u l hu hl=>zk (h.each i u l hu hl) λ k hk=>e k (qg (h.each i u l hu hl) hk).1 (qg (h.each i u l hu hl) hk).2.1⟩
theorem OwnLs.wider {base':Nat} (h:OwnLs R T W base pv vs ps) (hb:base'<=base):OwnLs R T W base' pv vs ps :=
 ⟨qP h.own hb,h.len,λ i u l hu hl=>qP (h.each i u l hu hl) hb⟩
theorem OwnLs.nil (R:REnc α) (T:TypeId) (W:World) (base:Nat):OwnLs R T W base (.slice none 0 0) [] []:=⟨kz W base _ 1,rfl,λ i u l h=>by simp at h⟩
theorem OwnLs.at (h:OwnLs R T W base pv vs ps) {i:Nat} {l:List α} (hl:ps[i]?=some l):∃ (g c:Nat) (u:Value),pv=.slice (some ⟨g,0,none⟩) ps.length c/\vs[i]?=some u/\W.cell? ((⟨g,0,none⟩:Addr).add i)=some u/\R.Own W base u l:=by
 have B:=(yc.1 hl).1;obtain⟨u,A⟩:∃ u,vs[i]?=some u:=⟨_,yb (by rw[h.len];exact B)⟩;rcases h.own.2 with⟨_,C⟩|⟨g,cap,cur,rfl,h1,h2,h3,h4,h5,h6⟩
 ·omega
 exact⟨g,cap,u,rfl,A,World.ownsRow.cells h.own (g:=g) rfl i u A,h.each i u l A hl⟩
theorem OwnLs.get {g n c:Nat} (h:OwnLs R T W base (.slice (some ⟨g,0,none⟩) n c) vs ps) {i:Nat} {l:List α} (hl:ps[i]?=some l):∃ u:Value,vs[i]?=some u/\W.cell? ⟨g,i,none⟩=some u/\W.frozen? ⟨g,i,none⟩=false/\R.Own W base u l:=by
 obtain⟨H,I,u,C,D,B,F⟩:=h.at hl;simp only[yC,yo,Addr.mk.injEq,and_true]at C;obtain⟨rfl,_,rfl⟩:=C;obtain⟨_,_,G,A⟩:=qg h.own (k:=g) rfl;rw[qW]at B;exact⟨u,D,B,frozen_of_row W g i _ _ A,F⟩
theorem OwnLs.outer (hT:T≠R.ty) (h:OwnLs R T W base pv vs ps) {k:Nat} (hk:pv.ownBlock=some k) {cs:Array Value} (hc:W.heap[k]?=some (.cells cs R.ty (0,0))):False:=by
 obtain⟨_,_,B,A⟩:=qg h.own hk;rw[hc]at A;simp only[yo,Yg]at A;exact hT A.2.1.symm
theorem OwnLs.outer_kept (hT:T≠R.ty) {g n c i:Nat} (h:OwnLs R T W base (.slice (some ⟨g,0,none⟩) n c) vs ps) {u v:Value} {l:List α} (hu:R.Own W base u l) (hg:W.grownBy W' u.ownBlock) (hc:W.cell? ⟨g,i,none⟩=some v) :
  W'.cell? ⟨g,i,none⟩=some v/\W'.frozen? ⟨g,i,none⟩=false:=by
 obtain⟨_,B,G,A⟩:=qg h.own (k:=g) rfl;have D:¬ some g=u.ownBlock:=λ e=>by
  obtain⟨_,_,H,C⟩:=qg hu e.symm;exact h.outer hT (k:=g) rfl C
 have F:=hg.block g B D;exact⟨(cell_of_block (x:=(⟨g,i,none⟩:Addr)) F).trans hc,frozen_of_row W' g i _ _ (F.trans A)⟩
theorem cV {B:Nat} {a:Addr} (h:B<=a.block) (v:Value):Below B W (W.setCell a v) :=
 ⟨rfl,rfl,rfl,by simp,λ k hk=>yq _ _ _ _ (by omega)⟩
theorem zL {a:Addr} {v:Value} (e:Bw W W') (h:W.cell? a=some v):W'.cell? a=some v:=by
 rw[cell_of_block (e.block a.block (World.block_lt_of_cell? W _ h))];exact h
theorem OwnLs.snoc (hT:T≠R.ty) (h:OwnLs R T W base pv vs ps) {u:Value} {l:List α} (hu:R.Own W base u l) (hown:W'.ownsRow base T 1 pv' (ps.length+1) (vs++[u])) (hg:W.grownBy W' pv.ownBlock):OwnLs R T W' base pv' (vs++[u]) (ps++[l]):=by
 have keep:∀ {x:Value} {m:List α},R.Own W base x m->R.Own W' base x m:=λ hx=>zk hx λ k hk=>by
  obtain⟨_,A,C,B⟩:=qg hx hk;exact hg.block k A λ e=>h.outer hT e.symm B
 refine⟨by rw[yL];exact hown,by simp[h.len],λ i x m hx hm=>?_⟩;rcases zQ hx with hx1|⟨hi,rfl⟩
 ·rcases zQ hm with hm1|⟨hi,rfl⟩
  ·exact keep (h.each i x m hx1 hm1)
  have:=(yc.1 hx1).1;have:=h.len;omega
 rcases zQ hm with hm1|⟨_,rfl⟩
 ·have:=(yc.1 hm1).1;have:=h.len;omega
 exact keep hu
theorem OwnLs.nils (R:REnc α) {n b:Nat} (h:W.heap[b]?=some (.cells (Array.replicate n (.slice none 0 0)) T (0,0))) (hb:base<=b) (hn:n<=maxLen):OwnLs R T W base (.slice (some ⟨b,0,none⟩) n n) (List.replicate n (.slice none 0 0)) (List.replicate n [])/\FarVs (List.replicate n (.slice none 0 0)):=by
 refine⟨⟨⟨by simp,.inr ⟨b,n,_,by simp,hb,h,by simp,hn,by simp,by simp⟩⟩,by simp,λ i u l hu hl=>?_⟩,λ i j u v _ hu _ k hk=>?_⟩
 ·rw[List.getElem?_replicate]at hu hl;split at hu
  ·rename_i hi;rw[Yz hi]at hl
   cases hu;cases hl
   exact R.own_nil _ _
  cases hu
 rw[List.getElem?_replicate]at hu;split at hu
 ·cases hu;cases hk
 cases hu
theorem OwnLs.grow (hT:T≠R.ty) {g n c i:Nat} (h:OwnLs R T W base (.slice (some ⟨g,0,none⟩) n c) vs ps) (hf:FarVs vs) {u u':Value} {l:List α} {x:α} (hu:vs[i]?=some u) (hl:ps[i]?=some l) (hg:W.grownBy W' u.ownBlock)
  (ho:R.Own W' base u' (l++[x])) (hat:u'.ownBlock=u.ownBlock\/u'.ownBlock=some W.heap.size):OwnLs R T (W'.setCell ⟨g,i,none⟩ u') base (.slice (some ⟨g,0,none⟩) n c) (vs.set i u') (ps.set i (l++[x]))/\FarVs (vs.set i u'):=by
 have L:=h.each _ u l hu hl;have D:=(yc.1 hu).1;obtain⟨o,P,J,B⟩:=qg h.own (k:=g) rfl;have N:¬ some g=u.ownBlock:=λ e=>by
  obtain⟨_,_,a,F⟩:=qg L e.symm;exact h.outer hT (k:=g) rfl F
 have A:W'.heap[g]?=some (.cells J T (0,0)):=(hg.block g P N).trans B;have M:∀ k,u'.ownBlock=some k->k≠g:=λ k e e'=>by
  obtain⟨_,_,a,F⟩:=qg ho e;rw[e',A]at F;simp only[yo,Yg]at F;exact hT F.2.1
 refine⟨⟨?_,by simp[h.len],λ j y m hy H=>?_⟩,λ j1 j2 y1 y2 hij hy1 hy2 k hk=>?_⟩
 ·obtain⟨Y,f⟩:=h.own;rcases f with⟨d,_⟩|⟨g',cap,cur2,hv,h1,h2,h3,h4,h5,h6⟩
  ·cases d
  simp only[yC,yo,Addr.mk.injEq,and_true]at hv;obtain⟨rfl,b,rfl⟩:=hv;rw[B]at h2;simp only[yo,Yg,and_true]at h2;subst h2;have G:(ps.set i (l++[x])).length=ps.length:=by simp
  refine⟨by rw[G,List.length_set];exact Y,.inr ⟨g,c,J.setIfInBounds i u',by rw[G,b],h1,yI _ _ _ _ _ _ A,by rw[G];exact h3,h4,by simpa using h5,?_⟩⟩;rw[G,Array.toList_setIfInBounds,List.take_set,h6]
 ·by_cases hi:j=i
  ·subst hi;rw[List.getElem?_set_self (by rw[h.len]at D;exact D)]at H;rw[List.getElem?_set_self D]at hy
   cases hy;cases H
   exact zk ho λ k e=>yq _ _ _ _ (M k e)
  rw[List.getElem?_set_ne (Ne.symm hi)]at hy H;have I:=h.each j y m hy H;refine zk I λ k e=>?_;obtain⟨_,X,a,F⟩:=qg I e;have U:k≠g:=λ e'=>by
   rw[e',B]at F;simp only[yo,Yg]at F;exact hT F.2.1
  rw[yq _ _ _ _ U];exact hg.block k X λ e'=>hf j i y u hi hy hu k e e'.symm
 ·have C:∀ (j:Nat) (y:Value),j≠i->(vs.set i u')[j]?=some y->vs[j]?=some y/\∀ k,y.ownBlock=some k->k<W.heap.size:=λ j y hj hy=>by
   rw[List.getElem?_set_ne (Ne.symm hj)]at hy;have V:=(yc.1 hy).1;obtain⟨m,H⟩:∃ m,ps[j]?=some m:=⟨_,yb (by rw[<- h.len];exact V)⟩;exact⟨hy,λ k e=>(qg (h.each j y m hy H) e).2.1⟩
  by_cases h1:j1=i
  ·subst h1;rw[List.getElem?_set_self D]at hy1
   cases hy1
   obtain⟨Z,S⟩:=C j2 y2 (Ne.symm hij) hy2;intro e;rcases hat with ha|ha
   ·exact hf _ j2 u y2 hij hu Z k (ha▸hk) e
   rw[ha]at hk;cases hk;have:=S _ e;omega
  obtain⟨K,O⟩:=C j1 y1 h1 hy1;by_cases h2:j2=i
  ·subst h2;rw[List.getElem?_set_self D]at hy2
   cases hy2
   intro e;rcases hat with ha|ha
   ·exact hf j1 _ y1 u hij K hu k hk (ha▸e)
   rw[ha]at e;cases e;have:=O _ hk;omega
  exact hf j1 j2 y1 y2 hij K (C j2 y2 h2 hy2).1 k hk
end
def addEd (L:List E) (e:E):List E:=if e∈L then L else L++[e]
def edgesL (g:List Q):List E:=(g.flatMap λ q=>borderE [q]).foldl addEd []
theorem AJ (L:List E) (x e:E):e∈addEd L x↔e∈L\/e=x:=by
 unfold addEd;split
 ·rename_i h;exact⟨.inl,λ h'=>h'.elim id λ e'=>e'▸h⟩
 simp
theorem oI:∀ (l L:List E) (e:E),e∈l.foldl addEd L↔e∈L\/e∈l
 | [],L,e=>by simp
 | x :: l,L,e=>by rw[Yu,oI l,AJ,Yd,or_assoc]
theorem pm:∀ (l L:List E),L.Nodup->(l.foldl addEd L).Nodup
 | [],L,h=>h
 | x :: l,L,h=>by
  rw[Yu];refine pm l _ ?_;unfold addEd;split
  ·exact h
  rename_i hx;rw[ko];exact⟨h,by simp,λ a ha b hb e=>hx (by rw[yU]at hb;rw[<- hb,<- e];exact ha)⟩
theorem nU:∀ (l L:List E),(l.foldl addEd L).length<=L.length+l.length
 | [],L=>by simp
 | x :: l,L=>by
  rw[Yu];have h1:=nU l (addEd L x);have h2:(addEd L x).length<=L.length+1:=by unfold addEd;split <;> simp
  rw[yA];omega
theorem gG {q:Q} (hq:inQ q) (e:E):e∈borderE [q]↔e∈edgesQ q:=by
 have h:=ce (l:=[q]) (by simpa using hq) (p:=oneP) (by rfl) e;unfold borderE;rw[h];unfold whoE oneP;by_cases he:e∈edgesQ q <;> simp[he]
theorem iD {l:List Q} (hq:∀ q∈l,inQ q) {e:E} (h:e∈borderE l):∃ q∈l,e∈edgesQ q:=by
 have B:=(ce hq (p:=oneP) (by rfl) e).1 h;unfold oneP at B;have C:=of_decide_eq_true B;obtain⟨q,A⟩:=List.exists_mem_of_length_pos (l:=whoE l e) (by omega);obtain⟨a,b⟩:=YZ.1 A;exact⟨q,a,by simpa using b⟩
theorem dL {g:List Q} (hq:∀ q∈g,inQ q) (e:E):e∈edgesL g↔∃ q∈g,e∈edgesQ q:=by
 unfold edgesL;rw[oI,kX];constructor
 ·rintro (h|⟨q,A,B⟩)
  ·cases h
  exact⟨q,A,(gG (hq q A) e).1 B⟩
 rintro⟨q,A,B⟩;exact .inr ⟨q,A,(gG (hq q A) e).2 B⟩
theorem nm (g:List Q):(edgesL g).Nodup:=pm _ _ List.nodup_nil
theorem lE {g:List Q} (hq:∀ q∈g,inQ q):(edgesL g).length<=3*g.length:=by
 have D:=nU (g.flatMap λ q=>borderE [q]) [];have C:∀ l:List Q,(∀ q∈l,inQ q)->(l.flatMap λ q=>borderE [q]).length<=3*l.length:=by
  intro l
  induction l with
  | nil=>simp
  | cons q l ih =>
   intro B;rw[YT,yL,yA];have A:=fS (l:=[q]) (by simpa using B q (by simp));have F:=ih λ r hr=>B r (Ym _ hr);simp only[yA,yN]at A;omega
 have A:=C g hq;unfold edgesL;simp only[yN]at D;omega
structure OkT (t:Tk):Prop where
 ground:checkN t.ground=0
 g64:t.ground.length<=64
 kinds:∀ s∈t.kinds,checkN s=0
 kind16:∀ s∈t.kinds,s.length<=16
 klen:1<=t.kinds.length/\t.kinds.length<=8
 clen:t.counts.length=t.kinds.length
 cnt:∀ c∈t.counts,0<=c/\c<=16
 csum:t.counts.sum<=16
 fixed:t.fixed.length<=16
 blen:t.below.length<=400
 bin:∀ e∈t.below,(0<=e.x/\e.x<=16)/\(0<=e.y/\e.y<=16)/\(0<=e.k/\e.k<=5)
 bsort:t.below.Pairwise ltE
structure TkOk (t:Tk) (L:List E):Prop where
 g64:t.ground.length<=64
 l192:L.length<=192
 cnt:∀ (k:Nat) (c:Int),t.counts[k]?=some c->0<=c/\c<=16
 clen:t.counts.length=t.kinds.length
 k8:t.kinds.length<=8
 inG:∀ p∈(piecesT t).flatten,∀ q∈p.qs,q∈t.ground
 inL:∀ p∈(piecesT t).flatten,∀ e∈borderE p.qs,e∈L
 kind:∀ (k:Nat) (l:List Pc),(piecesT t)[k]?=some l->∀ p∈l,p.ld.kind=k
 ne:∀ p∈(piecesT t).flatten,p.qs≠[]
theorem qX (t:Tk):(piecesT t).length=t.kinds.length:=by simp[piecesT]
theorem eL {t:Tk} {k:Nat} {s:List Q} (h:t.kinds[k]?=some s):(piecesT t)[k]?=some (piecesK t.ground k s):=by
 unfold piecesT;rw[yQ,List.getElem?_zipIdx,h];simp
theorem yt {t:Tk} (h:OkT t):TkOk t (edgesL t.ground):=by
 have B:=(qj h.ground).1.1;obtain⟨G,I,A⟩:=cY h.kinds h.clen;refine⟨h.g64,?_,λ k c hc=>h.cnt c (yg hc),h.clen,h.klen.2,A,λ p hp e he=>?_,λ k l hl p hp=>?_,G⟩
 ·have:=lE B;have:=h.g64;omega
 ·obtain⟨q,C,D⟩:=iD (λ q hqq=>B q (A p hp q hqq)) he;exact(dL B e).2 ⟨q,A p hp q C,D⟩
 have F:k<t.kinds.length:=by rw[<- qX];exact(yc.1 hl).1
 rw[eL (yb F)]at hl
 cases hl
 unfold piecesK at hp;obtain⟨H,_,rfl⟩:=yP.1 hp;rfl
