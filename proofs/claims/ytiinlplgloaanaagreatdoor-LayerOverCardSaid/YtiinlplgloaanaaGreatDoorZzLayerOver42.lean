/- Chapter 7 in the heap: covers, of any bricks: the first rule that they break, and the state in which all are put. -/
import Derived.Test.YtiinlplgloaanaaGreatDoorZzLayerOver41
set_option linter.all false
set_option maxRecDepth 100000
set_option maxHeartbeats 16000000
namespace Go.Proofs.YtiinlplgloaanaaGreatDoor
open Go.Proofs.Tryz Go.RowKit
attribute [local go_sem] Oper.semAt_some
structure CgI (t:Tk) (js:List E) (L:List E) (w:World) (bb:Nat) (bv:BV) (l:List Ld) (v:Value) (W:World):Prop where
 fbox:W.heap[w.heap.size]?=some (.cells #[.int .i64 0,.int .i64 0] 135 (0,0))
 rbox:W.heap[w.heap.size+1]?=some (.cells (hsVals zeroS).toArray 108 (0,0))
 bd:BdAt W bb bv t L (pcsT t L) (belT t L)
 arg:RL.Has W v l
 tb:TbAt W
 bel:RE.Has W bv.b js
 below:Bw w W
theorem CgI.keep {t:Tk} {js:List E} {L:List E} {w:World} {bb:Nat} {bv:BV} {l:List Ld} {v:Value} {W W':World} (h:CgI t js L w bb bv l v W) (e:Bw W W'):CgI t js L w bb bv l v W' :=
 ⟨(e.block _ (ya.1 h.fbox).1).trans h.fbox,(e.block _ (ya.1 h.rbox).1).trans h.rbox,h.bd.keep e,h.arg.below e,h.tb.below e,h.bel.below e,h.below.tm e⟩
theorem zbz (cs:Array Value) (h:cs.size=16) (h1:cs.all (·.oneCell')=true):∃ c,cs=c/\(Tryz.prog.info? 108).map (·.size)=some c.size/\(hsVals zeroS).toArray.size=c.size/\c.all (·.oneCell')=true:=⟨cs,rfl,by rw[h];exact sizeS,h.symm,h1⟩
theorem qaz {id:Nat} {Q:Exit->Act->World->Prop} {a:Act} {t:Tk} {js:List E} {L:List E} {w:World} {bb:Nat} {bv:BV} {l:List Ld} {va:Value} {W:World} {o0 o1 o2 o3 o4:Oper} {dm d0 d1:Nat} {x y p q:Operand} {cU:Array Value} {n i:Int} {sb:Nat} (hcg:CgI t js L w bb bv l va W)
  (hA:W.heap[sb]?=some (.cells cU 108 (0,0))) (hsz:(Tryz.prog.info? 108).map (·.size)=some cU.size) (hosz:(hsVals zeroS).toArray.size=cU.size) (hone:cU.all (·.oneCell')=true) (hsb:w.heap.size+1<sb)
  (hB:gB #[o0,o1,o2,o3,o4] [3,4] [0,0,1,0,0]=true)
  (e0:o0.op=.move y) (g0:o0.guard=none) (t0:o0.dst=some dm)
  (e1:o1.op=.build 135 #[(0,.const (.int .i64 n)),(1,.tmp dm)]) (g1:o1.guard=none) (t1:o1.dst=some d0)
  (e2:o2.op=.load 108 x) (g2:o2.guard=none) (t2:o2.dst=some d1)
  (e3:o3.op=.store 135 p (.tmp d0)) (g3:o3.guard=none) (t3:o3.dst=none)
  (e4:o4.op=.store 108 q (.tmp d1)) (g4:o4.guard=none) (t4:o4.dst=none)
  (hy:a.eval y=.int .i64 i) (hdm:dm<a.tmps.size) (hd0:d0<a.tmps.size) (hd1:d1<a.tmps.size) (hne:d1≠d0)
  (hx:∀ cT,((a.put (some dm) (.int .i64 i)).put (some d0) (.agg cT)).eval x=.pointer (some ⟨sb,0,none⟩))
  (hp:∀ cT,(((a.put (some dm) (.int .i64 i)).put (some d0) (.agg cT)).put (some d1) (.agg cU)).eval p=.pointer (some ⟨w.heap.size,0,none⟩))
  (hq:∀ cT,(((a.put (some dm) (.int .i64 i)).put (some d0) (.agg cT)).put (some d1) (.agg cU)).eval q=.pointer (some ⟨w.heap.size+1,0,none⟩))
  (h:∀ (cT:Array Value) (w10:World),cT=#[.int .i64 n,.int .i64 i]->(Tryz.prog.info? 135).map (·.size)=some cT.size->Bw w w10->w10.heap[w.heap.size]?=some (.cells cT 135 (0,0))->w10.heap[w.heap.size+1]?=some (.cells cU 108 (0,0))->Q .normal (((a.put (some dm) (.int .i64 i)).put (some d0) (.agg cT)).put (some d1) (.agg cU)) w10) :
  (Code.region id #[o0,o1,o2,o3,o4] true).wp Tryz.prog Q a W:=by
 have hF:=hcg.fbox;have hR:=hcg.rbox;have F:sb≠w.heap.size:=by omega
 have A:w.heap.size+1≠w.heap.size:=by omega
 have D:∃ c,Tryz.prog.built 135 [(0,.int .i64 n),(1,.int .i64 i)]=some c/\c=#[.int .i64 n,.int .i64 i]:=⟨_,rfl,rfl⟩;obtain⟨cT,D,B⟩:=D;have C:(Tryz.prog.info? 135).map (·.size)=some cT.size:=by rw[B];kernel_rfl
 refine qe8 (T:=135) (U:=108) (cT:=cT) (cU:=cU) (v:=.int .i64 i) (bT:=w.heap.size) (bU:=w.heap.size+1) (bX:=sb) (by kernel_rfl) hB e0 g0 t0 e1 g1 t1 e2 g2 t2 e3 g3 t3 e4 g4 t4 hy D hdm hd0 hd1 hne (hx cT) (hp cT) (hq cT) hA hF hR F A underlying108 rfl C hsz (by rw[B];rfl) hosz (by rw[B];simp[Value.oneCell']) hone ?_;refine h cT _ B C ?_ ?_ ?_
 ·exact zh (zh (hcg.below.trans (below_drewN _ W 1)) (ye _) _) (YF _) _
 ·exact (setRow_other ((W.drewN 1).setRow w.heap.size cT) (w.heap.size+1) w.heap.size cU A.symm).trans (setRow_heap (W.drewN 1) w.heap.size _ cT _ _ hF)
 ·exact setRow_heap ((W.drewN 1).setRow w.heap.size cT) (w.heap.size+1) _ cU _ _ ((setRow_other (W.drewN 1) w.heap.size (w.heap.size+1) cT A).trans hR)
def CovPost (t:Tk) (js:List E) (L:List E) (l:List Ld) (w:World) (e:Ending) (w':World):Prop:=∃ (n i:Nat) (cS:Array Value),e=.returned (.tuple #[.agg #[.int .i64 n,.int .i64 i],.agg cS])/\(n,i)=coversT (withB t js) l/\Bw w w'/\(hsVals zeroS).toArray.size=cS.size/\cS.all (·.oneCell')=true /\
 (n=0->∃ S:HS,cS=(hsVals S).toArray/\StT t.ground L (parts t l) S/\RP.Own w' w.heap.size S.laid ((parts t l).map (hpT t.ground L)))
theorem zdn {t:Tk} {js L:List E} (ok:TkOk t L) (w:World) (bb:Nat) (bv:BV) (hb:BdAt w bb bv t L (pcsT t L) (belT t L)) (htb:TbAt w) (l:List Ld) (h16:l.length<=16) (v:Value) (hv:RL.Has w v l) (hjs:RE.Has w bv.b js) (hfx:t.fixed.length<=16) (hjl:js.length<=1000) (hLn:L.Nodup) (hLo:∀ e∈L,okE e) (hjo:∀ e∈js,okE e) :
  Calls Tryz.prog 59 #[.pointer (some ⟨bb,0,none⟩),v] w (CovPost t js L l w):=by
 have Q7:∀ l∈pcsT t L,l.length<=1000000:=λ l hl=>by
  obtain⟨x,hx,rfl⟩:=yP.1 hl;obtain⟨⟨s,k⟩,_,rfl⟩:=yP.1 hx;rw[yB];have:=zb9 s t.ground;show (piecesK t.ground k s).length<=_;unfold piecesK;rw[yB];omega
 have E8:(pcsT t L).length=t.kinds.length:=by unfold pcsT;rw[yB,qV]
 obtain⟨vp,vc,rfl⟩:=hv.slice;have E6:=yd w (.cells #[.int .i64 0,.int .i64 0] 135);have O6:(w.alloc (.cells #[.int .i64 0,.int .i64 0] 135)).heap.size=w.heap.size+1:=yp _ _;have I9:Below w.heap.size w (w.alloc (.cells #[.int .i64 0,.int .i64 0] 135)):=(yf _ w).alloc (ye _) _;have B2:Below w.heap.size w ((w.alloc (.cells #[.int .i64 0,.int .i64 0] 135)).alloc (.cells (hsVals zeroS).toArray 108)):=I9.alloc (by omega) _;have J4:=yd (w.alloc (.cells #[.int .i64 0,.int .i64 0] 135)) (.cells (hsVals zeroS).toArray 108);rw[O6]at J4;have G1:CgI t js L w bb bv l (.slice vp l.length vc) ((w.alloc (.cells #[.int .i64 0,.int .i64 0] 135)).alloc (.cells (hsVals zeroS).toArray 108)):=⟨heapO _ E6,J4,hb.keep B2,hv.below B2,htb.below B2,hjs.below B2,B2⟩;have S3:=yK Q7;clear Q7;have T3:=yK E8;clear E8;have P7:=yK hLn;clear hLn;have S0:=yK hLo;clear hLo;have S6:=yK hjo;clear hjo;clear E6 I9 B2 J4 O6 hb hv htb hjs;generalize P9:CovPost t js L l w=Po;have C3:=yK P9;clear P9;go_enter func59,ntmps59;go_upto_region 1 with fail;change Code.wp _ _ _ _ ((w.alloc (.cells #[.int .i64 0,.int .i64 0] 135)).alloc (.cells (hsVals zeroS).toArray 108));revert G1;generalize (w.alloc (.cells #[.int .i64 0,.int .i64 0] 135)).alloc (.cells (hsVals zeroS).toArray 108)=w1;intro G1;go_upto_region 2 with fail;change Code.wp _ _ _ _ (w1.alloc (.cells (hsVals zeroS).toArray 108));have hS:=yd w1 (.cells (hsVals zeroS).toArray 108);have H5:Below w1.heap.size w1 (w1.alloc (.cells (hsVals zeroS).toArray 108)):=(yf _ w1).alloc (ye _) _;have P5:w.heap.size+1<w1.heap.size:=(ya.1 G1.rbox).1;have H1:(w1.alloc (.cells (hsVals zeroS).toArray 108)).heap.size=w1.heap.size+1:=yp _ _;have B3:Hid (∀ W,Below w1.heap.size w1 W->CgI t js L w bb bv l (.slice vp l.length vc) W):=yK λ W h=>G1.keep h;clear G1;revert hS H5 H1;generalize w1.alloc (.cells (hsVals zeroS).toArray 108)=w2;revert B3 P5;generalize N4:w1.heap.size=sb;intro P5 B3 hS H5 H1;have G5:=yK N4;clear N4;have HS:=yK hS;clear hS;have T4:=yK H5;clear H5;have W4:=yK H1;clear H1;go_wp2_with fail;go_loopw [7,27] (λ u z wr=>∃ k:Nat,k<=l.length/\z=.int .i64 k/\Hid (RP.Own wr (sb+1) u ((parts t (l.take k)).map (hpT t.ground L))/\Below sb w1 wr/\wr.heap[sb]?=some (.cells (hsVals zeroS).toArray 108 (0,0))/\(parts t (l.take k)).length=k/\∀ j,j<k->qaQ (withB t js) l j=false)) (λ _ z _=>l.length-(intOf z).toNat)
 case atStart=>exact⟨0,YC _,rfl,yK ⟨RP.own_nil _ _,T4.o,HS.o,rfl,λ j hj=>absurd hj (by omega)⟩⟩
 case round =>
  obtain⟨k,hk,rfl,HR⟩:=hrel;by_cases hlt:k<l.length
  case pos =>
   obtain⟨x,hx⟩:∃ x,l[k]?=some x:=⟨_,yb hlt⟩;obtain⟨xa,rfl,O⟩:=(B3.o wr HR.o.2.1).arg.at_ (by rintro e;rw[e]at hx;simp at hx);have A1:(Instr.loadAt 50 (.pointer (some (xa.add (k*5))))).run Tryz.prog wr=.ok (.agg (ldVals x).toArray) wr:=zn (P:=Tryz.prog) (R:=RL) underlying50 rfl sizeL O hx;have HX:=yK hx;clear O hx;have B1:(Tryz.prog.info? 50).map (·.size)=some (ldVals x).toArray.size:=sizeL;have B6:(ldVals x).toArray.all (·.oneCell')=true:=(by simp[ldVals,Value.oneCell']);go_upto_region 6 with (first
    | (refine qo rfl 50 _ rfl rfl A1 ?_)
    | (refine wpList_store_row rfl 50 _ _ rfl wr.heap.size rfl 50 _ (ldVals x).toArray rfl (yd wr _) B1 rfl B6 ?_;rw[World.setRow_alloc_new]))
   have A9:=yd wr (.cells (ldVals x).toArray 50);have G3:Below wr.heap.size wr (wr.alloc (.cells (ldVals x).toArray 50)):=(yf _ wr).alloc (ye _) _;clear A1;revert A9 G3;generalize wr.alloc (.cells (ldVals x).toArray 50)=w3;intro A9 G3;have M:=yK G3;clear G3;have E9:sb<=wr.heap.size:=(by have:=HR.o.2.1.size;have:=G5.o;omega);have J1:=B3.o w3 (HR.o.2.1.trans (M.o.mono E9));have J9:=yK (zen w3 bb _ J1.bd T3.o ok.k8 S3.o x);clear J1;go_wp2_with (refine Yb rfl 50 _ rfl wr.heap.size rfl 50 (ldVals x).toArray (0,0) _ A9 underlying50 rfl B1 ?_);refine J9.o.mono ?_;rintro e w4 ⟨rfl,C8⟩;rw[qeB]
   cases hf:findT t x with
   | none =>
    simp only[Option.map_none,Option.getD_none,Option.isSome_none];have F6:=yK hf;clear hf;have C:=yK (M.o.tm C8);clear J9 A9 C8 M;have g:(Tryz.prog.info? 152).map (·.size)=some (hpVals zeroP).toArray.size:=sizeP;have S:(hpVals zeroP).toArray.all (·.oneCell')=true:=(by simp[hpVals,zeroP,Value.oneCell']);have hA:=(C.o.block sb (ya.1 HR.o.2.2.1).1).trans HR.o.2.2.1;have N1:=B3.o w4 (HR.o.2.1.trans (C.o.mono E9));go_upto_region 8 with (first
     | (refine wpList_store_row rfl 152 _ _ rfl w4.heap.size rfl 152 _ (hpVals zeroP).toArray rfl (yd w4 _) g rfl S ?_;rw[World.setRow_alloc_new]))
    have D2:=N1.keep ((yf _ w4).alloc (ye _) (.cells (hpVals zeroP).toArray 152));have D:=heapO (.cells (hpVals zeroP).toArray 152) hA;clear N1 hA g S;revert D2 D;generalize w4.alloc (.cells (hpVals zeroP).toArray 152)=w5;intro D2 D;have A3:=yK D2;clear D2;obtain⟨A,N,K,F,B⟩:=zbz (hsVals zeroS).toArray rfl (by simp[hsVals,zeroS,Value.oneCell']);have hA:=D;rw[N]at hA;clear D N;refine qaz (n:=1) (i:=k) A3.o hA K F B (by omega) (by kernel_rfl) rfl rfl rfl rfl rfl rfl rfl rfl rfl rfl rfl rfl rfl rfl rfl rfl (Yj (by kernel_rfl)) (Yj (by kernel_rfl)) (Yj (by kernel_rfl)) (by decide) (λ _=>by kernel_rfl) (λ _=>by kernel_rfl) (λ _=>by kernel_rfl) ?_;intro cT w10 V H X G I;clear hA;go_wp2_with fail;refine Yc (zO rfl underlying135 rfl underlying108 rfl _ w10 w.heap.size (w.heap.size+1) cT A (0,0) (0,0) G H I K (by kernel_rfl) (by kernel_rfl)) rfl ?_;rw[<- C3.o];exact⟨1,k,A,by rw[V];rfl,(cov1 (t:=withB t js) hlt (by rw[zeA HX.o,qcV,F6.o];rfl) HR.o.2.2.2.2).symm,X,F,B,λ h=>absurd h (by decide)⟩
   | some p =>
    simp only[Option.map_some,Yw,Option.isSome_some];have F6:=yK hf;clear hf;have C:=yK (M.o.tm C8);clear J9 A9 C8 M;have g:(Tryz.prog.info? 152).map (·.size)=some (hpVals (hpT t.ground L p)).toArray.size:=sizeP;have S:(hpVals (hpT t.ground L p)).toArray.all (·.oneCell')=true:=(by simp[hpVals,Value.oneCell']);go_upto_region 9 with (first
     | (refine wpList_store_row rfl 152 _ _ rfl w4.heap.size rfl 152 _ (hpVals (hpT t.ground L p)).toArray rfl (yd w4 _) g rfl S ?_;rw[World.setRow_alloc_new]))
    have B8:=yd w4 (.cells (hpVals (hpT t.ground L p)).toArray 152);have B0:Below wr.heap.size wr (w4.alloc (.cells (hpVals (hpT t.ground L p)).toArray 152)):=C.o.alloc C.o.size _;revert B8 B0;generalize w4.alloc (.cells (hpVals (hpT t.ground L p)).toArray 152)=w5;generalize w4.heap.size=pb;intro B8 B0;have L4:Below wr.heap.size wr (w5.alloc (.cells (hpVals (hpT t.ground L p)).toArray 152)):=B0.alloc B0.size _;obtain⟨ls,C0⟩:∃ ls,(parts t (l.take k)).map (hpT t.ground L)=ls:=⟨_,rfl⟩;have R1:ls.length=k:=(by rw[<- C0,yB];exact HR.o.2.2.2.1);have B4:=yK (qf HR.o.1 L4);rw[C0]at B4;have R7:=yK C0;clear C0;have B7:=yK L4;clear L4;have V4:sb+1<=w5.heap.size:=(by have:=(ya.1 HR.o.2.2.1).1;have:=B0.size;omega);have R5:=yK (zI (yd w5 (.cells (hpVals (hpT t.ground L p)).toArray 152)));obtain⟨iI,P1,O1,H9,S4⟩:=info_parts infoPc;have V0:Hid (ls.length+1<=maxLen):=yK (by simp only[maxLen];omega);have T6:Hid ((ls.length+1)*72<=140737488355328):=yK (by omega);clear R1 B0;go_wp2_with (first
     | (refine Yb rfl 152 _ rfl pb rfl 152 (hpVals (hpT t.ground L p)).toArray (0,0) _ B8 underlying152 rfl g ?_)
     | (refine qbm rfl _ rfl rfl underlying102 P1 O1 (by rw[H9];decide) (by rw[H9];decide) (cells:=(hpVals (hpT t.ground L p)).toArray) (by rw[H9];exact qb6 _) ?_)
     | (at_builtin;refine wpList_append_own_at (P:=Tryz.prog) _ rfl _ _ 102 rfl (sb+1) 152 iI _ 9 72 underlying102 P1 O1 H9 S4 rfl (by decide) u7 ls.length (RP.cells ls) rfl B4.o ⟨w5.heap.size,0,none⟩ 1 1 (hpVals (hpT t.ground L p)) rfl rfl R5.o (RP.one _) V0.o T6.o (by rw[yp];omega) ?_;intro v' w7 hown' hgrow _ O;obtain⟨p',c',rfl⟩:=zf hown'))
    have S7:Below sb w1 w7:=(HR.o.2.1.trans (B7.o.mono E9)).grown hgrow (by rw[yp];omega) λ b e=>by have:=(qg B4.o e).1;omega
    refine⟨⟨k+1,by omega,by go_num,yK ⟨?_,S7,?_,?_,?_⟩⟩,by simp only[intOf];omega⟩
    ·rw[qdo HX.o F6.o,Ym,R7.o];exact RP.own_snoc hown'
    ·refine (hgrow.block sb (by rw[yp];omega) λ e=>?_).trans ((B7.o.block sb (ya.1 HR.o.2.2.1).1).trans HR.o.2.2.1);have:=(qg B4.o e.symm).1;omega
    ·rw[qdo HX.o F6.o,yL,HR.o.2.2.2.1];rfl
    intro j hj;rcases (by omega:j<k\/j=k)with h|rfl
    ·exact HR.o.2.2.2.2 j h
    rw[zeA HX.o,qcV,F6.o];rfl
  obtain rfl:k=l.length:=by omega
  have hR:=HR.o;rw[Yd]at hR;obtain⟨T,M0⟩:∃ T,parts t l=T:=⟨_,rfl⟩;have L6:=parts_all (t:=t) (l:=l) hR.2.2.2.2;rw[M0]at hR L6;obtain⟨P6,O2,M8,O0,Q1⟩:=hR;have J:=yK M0;clear M0;have L1:=yK L6.2;clear L6;have L8:=yK Q1;clear Q1;have A7:Hid (RP.Own wr (sb+1) u7 (T.map (hpT t.ground L))/\Below sb w1 wr/\wr.heap[sb]?=some (.cells (hsVals zeroS).toArray 108 (0,0))):=yK ⟨P6,O2,M8⟩;have V3:T.length<=16:=by omega
  have W0:=yK O0;clear O0;clear P6 O2 M8 HR hlt hk;obtain⟨wA,rfl⟩:∃ wA,wA=wr:=⟨_,rfl⟩;obtain⟨qp,qc,rfl⟩:=zf A7.o.1;rw[yB]at A7 ⊢;have S5:Hid (∀ p∈T,∃ q∈t.ground,q∈p.qs):=yK λ p hp=>by
   have hm:=L1.o p hp;obtain⟨q,hq⟩:=List.exists_mem_of_ne_nil _ (ok.ne p hm);exact⟨q,ok.inG p hm q hq,hq⟩
  have B5:Hid (∀ W,Below wA.heap.size wA W->RP.Own W (sb+1) (.slice qp T.length qc) (T.map (hpT t.ground L))):=yK λ W h=>qf A7.o.1 h;have F3:sb<=wA.heap.size:=by have:=A7.o.2.1.size;have:=G5.o;omega
  go_wp2_with fail;go_loopw [50] (λ z wq=>∃ i:Nat,i<=T.length/\z=.int .i64 i/\Hid (Below wA.heap.size wA wq/\∀ j,j<i->rule2 (withB t js) T j=false)) (λ z _=>T.length-(intOf z).toNat)
  case atStart=>exact⟨0,YC _,rfl,yK ⟨yf _ _,λ j hj=>absurd hj (by omega)⟩⟩
  obtain⟨i,hi,rfl,L7⟩:=hrel;have HQ:=yK L7.o.1;have G9:=yK L7.o.2;clear L7;by_cases hlt:i<T.length
  case pos =>
   obtain⟨p,hp⟩:∃ p,T[i]?=some p:=⟨_,yb hlt⟩;have Q0:=B5.o wr HQ.o;obtain⟨qa,rfl,O⟩:=(REnc.Own.has Q0).at_ (by intro e;have h0:=YB List.length e;rw[yB]at h0;simp at h0;rw[h0]at hlt;simp at hlt);have A1:(Instr.loadAt 152 (.pointer (some (qa.add (i*9))))).run Tryz.prog wr=.ok (.agg (hpVals (hpT t.ground L p)).toArray) wr:=zn (P:=Tryz.prog) (R:=RP) underlying152 rfl sizeP O (by rw[yQ,hp];rfl);have g:(Tryz.prog.info? 152).map (·.size)=some (hpVals (hpT t.ground L p)).toArray.size:=sizeP;have S:(hpVals (hpT t.ground L p)).toArray.all (·.oneCell')=true:=(by simp[hpVals,Value.oneCell']);clear Q0 O;go_upto_region 14 with (first
    | (refine qo rfl 152 _ rfl rfl A1 ?_)
    | (refine wpList_store_row rfl 152 _ _ rfl wr.heap.size rfl 152 _ (hpVals (hpT t.ground L p)).toArray rfl (yd wr _) g rfl S ?_;rw[World.setRow_alloc_new]))
   simp only[Act.put];have B8:=yd wr (.cells (hpVals (hpT t.ground L p)).toArray 152);have y:Below wA.heap.size wA (wr.alloc (.cells (hpVals (hpT t.ground L p)).toArray 152)):=HQ.o.alloc HQ.o.size _;clear A1;revert B8 y;generalize wr.alloc (.cells (hpVals (hpT t.ground L p)).toArray 152)=w3;generalize wr.heap.size=pb;intro B8 y;have M:=yK y;clear y
   cases i with
   | zero =>
    clear B8;refine zg 13 (by kernel_rfl) (by kernel_rfl) ?_;simp only[yh,yj,yi,yl]
    repeat (go_big_quiet_step (fail))
    refine wpQuiet_nil ?_;intro dq;have C:=yK (M.o.tm dq.2);revert C;generalize dq.1=w4;intro C;go_wp2_with fail
    go_roundw
    case rel=>exact⟨1,by omega,by go_num,yK ⟨C.o,λ j hj=>by (obtain rfl:j=0:=by omega);exact zf5 _ _⟩⟩
    case measure=>simp only[intOf];omega
   | succ j =>
    obtain⟨r,hr⟩:∃ r,T[j]?=some r:=⟨_,yb (by omega)⟩;have Q8:=yK (qhg (t:=withB t js) hr hp);have d1:∀ d:SubW w3,(Instr.loadAt 152 (.pointer (some ⟨pb,0,none⟩))).run Tryz.prog d.1=.ok (.agg (hpVals (hpT t.ground L p)).toArray) d.1:=λ d=>by
     have:=run_loadVar_row (P:=Tryz.prog) d.1 pb 152 152 (hpVals (hpT t.ground L p)).toArray (0,0) _ (d.block B8) underlying152 rfl g;simp only[Instr.loadAt,Instr.sureAddr,yG,yH,yz,this]
    have d2:∀ d:SubW w3,(Instr.loadAt 152 (.pointer (some (qa.add (j*9))))).run Tryz.prog d.1=.ok (.agg (hpVals (hpT t.ground L r)).toArray) d.1:=λ d=>by
     obtain⟨V8,e,O⟩:=(REnc.Own.has (B5.o d.1 (M.o.tm d.2))).at_ (by intro e;have h0:=YB List.length e;rw[yB]at h0;simp at h0;rw[h0]at hlt;simp at hlt)
     cases e
     exact zn (P:=Tryz.prog) (R:=RP) underlying152 rfl sizeP O (by rw[yQ,hr];rfl)
    have C0:∀ x∈T,∀ d:SubW w3,Calls Tryz.prog 94 #[.agg (hpVals (hpT t.ground L x)).toArray] d.1 λ e w'=>e=.returned (.int .i64 (leastP t.ground x))/\∃ d':SubW w3,w'=d'.1:=λ x hx d=>by
     have htb:=(B3.o d.1 (A7.o.2.1.trans ((M.o.tm d.2).mono F3))).tb;refine (zcB (hpT t.ground L x) (zbc ok.g64 _) d.1 htb).mono ?_;rintro e w' ⟨rfl,I3⟩;rw[qb9 ok.g64 (S5.o x hx)];exact⟨rfl,⟨w',d.2.tm I3.below⟩,rfl⟩
    have I0:=yK (C0 p (yg hp));have G4:=yK (C0 r (yg hr));clear C0 hp hr;have W5:(0:Int)<(j:Int)+1:=(by omega);have W2:(j:Int)<T.length:=(by omega);by_cases hc:leastP t.ground p<=leastP t.ground r
    case neg =>
     have F2:Hid (rule2 (withB t js) T (j+1)=false):=yK (by rw[Q8.o];exact yv hc);have hd:decide ((leastP t.ground p:Int)<=(leastP t.ground r:Int))=false:=yv (by omega);have L2:¬ ((leastP t.ground p:Int)<=(leastP t.ground r:Int)):=(by omega);have E4:¬ (leastP t.ground p<=leastP t.ground r):=(by omega);refine zg 13 (by kernel_rfl) (by kernel_rfl) ?_;simp only[yh,yj,yi,yl]
     repeat (first|((first|(go_big_quiet_want;refine qF 152 _ rfl rfl (by rintro w ⟨d,rfl⟩;exact d1 d) ?_;simp only[Act.put,yr,yF,yE];go_big_quiet_on)|(go_big_quiet_want;refine qF 152 _ rfl rfl (by rintro w ⟨d,rfl⟩;exact d2 d) ?_;simp only[Act.put,yr,yF,yE];go_big_quiet_on)))|go_big_quiet_step ((first|exact I0.o _|exact G4.o _)))
     refine wpQuiet_nil ?_;intro dq;have C:=yK (M.o.tm dq.2);clear d1 d2 hd L2 E4 I0 G4 hc;revert C;generalize dq.1=w4;intro C;go_wp2_with fail
     go_roundw
     case rel=>exact⟨j+1+1,by omega,by go_num,yK ⟨C.o,λ m hm=>by
      rcases (by omega:m<j+1\/m=j+1)with h|rfl
      ·exact G9.o m h
      exact F2.o⟩⟩
     case measure=>simp only[intOf];omega
    have F2:Hid (rule2 (withB t js) T (j+1)=true):=yK (by rw[Q8.o];exact yw hc);have hd:decide ((leastP t.ground p:Int)<=(leastP t.ground r:Int))=true:=yw (by omega);have L2:((leastP t.ground p:Int)<=(leastP t.ground r:Int)):=(by omega);have E4:(leastP t.ground p<=leastP t.ground r):=hc;refine zg 13 (by kernel_rfl) (by kernel_rfl) ?_;simp only[yh,yj,yi,yl]
    repeat (first|((first|(go_big_quiet_want;refine qF 152 _ rfl rfl (by rintro w ⟨d,rfl⟩;exact d1 d) ?_;simp only[Act.put,yr,yF,yE];go_big_quiet_on)|(go_big_quiet_want;refine qF 152 _ rfl rfl (by rintro w ⟨d,rfl⟩;exact d2 d) ?_;simp only[Act.put,yr,yF,yE];go_big_quiet_on)))|go_big_quiet_step ((first|exact I0.o _|exact G4.o _)))
    refine wpQuiet_nil ?_;intro dq;have M1:=M.o.tm dq.2;have D:dq.1.heap[sb]?=some (.cells (hsVals zeroS).toArray 108 (0,0)):=(M1.block sb (ya.1 A7.o.2.2).1).trans A7.o.2.2;have A3:=yK (B3.o dq.1 (A7.o.2.1.trans (M1.mono F3)));clear d1 d2 hd L2 E4 I0 G4 hc M1;revert D A3;generalize dq.1=w5;intro D A3;go_upto_region 15 with fail;obtain⟨A,N,K,F,B⟩:=zbz (hsVals zeroS).toArray rfl (by simp[hsVals,zeroS,Value.oneCell']);have hA:=D;rw[N]at hA;clear D N;refine qaz (n:=2) (i:=(j+1:Nat)) A3.o hA K F B (by omega) (by kernel_rfl) rfl rfl rfl rfl rfl rfl rfl rfl rfl rfl rfl rfl rfl rfl rfl rfl (Yj (by kernel_rfl)) (Yj (by kernel_rfl)) (Yj (by kernel_rfl)) (by decide) (λ _=>by kernel_rfl) (λ _=>by kernel_rfl) (λ _=>by kernel_rfl) ?_;intro cT w10 V H X G I;clear hA;go_wp2_with fail;refine Yc (zO rfl underlying135 rfl underlying108 rfl _ w10 w.heap.size (w.heap.size+1) cT A (0,0) (0,0) G H I K (by kernel_rfl) (by kernel_rfl)) rfl ?_;rw[<- C3.o];exact⟨2,j+1,A,by rw[V];rfl,(cov2 (t:=withB t js) L8.o (by rw[zo,J.o];exact hlt) (by rw[zo,J.o];exact F2.o) (by rw[zo,J.o];exact G9.o)).symm,X,F,B,λ h=>absurd h (by decide)⟩
  obtain rfl:i=T.length:=by omega
  have I5:=yK G9.o;clear G9;have H3:=yK HQ.o;clear HQ;go_wp2_with fail;have Q9:Below sb w1 wr:=A7.o.2.1.trans (H3.o.mono F3);have N0:RP.Own wr (sb+1) (.slice qp T.length qc) (T.map (hpT t.ground L)):=B5.o wr H3.o;have E6:wr.heap[sb]?=some (.cells (hsVals (stC 0 0 0 0 0 0 0 λ _=>0)).toArray 108 (0,0)):=(H3.o.block sb (ya.1 A7.o.2.2).1).trans A7.o.2.2;have H0:=yK (And.intro Q9 (And.intro N0 E6));clear Q9 N0 E6 H3 B5;go_loopw [74] (λ z wq=>∃ (i st b0 b1 b2 j0 j1 j2:Nat) (mn:Nat->Nat),i<=T.length/\z=.int .i64 i/\Hid (Below sb w1 wq/\RP.Own wq (sb+1) (.slice qp T.length qc) (T.map (hpT t.ground L))/\wq.heap[sb]?=some (.cells (hsVals (stC st b0 b1 b2 j0 j1 j2 mn)).toArray 108 (0,0)) /\
   StT t.ground L (T.take i) (stC st b0 b1 b2 j0 j1 j2 mn)/\∀ j,j<i->qaK T j=false)) (λ z _=>T.length-(intOf z).toNat)
  case atStart=>exact⟨0,0,0,0,0,0,0,0,λ _=>0,YC _,rfl,yK ⟨H0.o.1,H0.o.2.1,H0.o.2.2,zfu _ _,λ j hj=>absurd hj (by omega)⟩⟩
  obtain⟨i,st,b0,b1,b2,j0,j1,j2,mn,hi,rfl,HQ⟩:=hrel;by_cases hlt:i<T.length
  case pos =>
   obtain⟨p,hp⟩:∃ p,T[i]?=some p:=⟨_,yb hlt⟩;obtain⟨qa,rfl,O⟩:=(REnc.Own.has HQ.o.2.1).at_ (by intro e;have h0:=YB List.length e;rw[yB]at h0;simp at h0;rw[h0]at hlt;simp at hlt);have A1:(Instr.loadAt 152 (.pointer (some (qa.add (i*9))))).run Tryz.prog wr=.ok (.agg (hpVals (hpT t.ground L p)).toArray) wr:=zn (P:=Tryz.prog) (R:=RP) underlying152 rfl sizeP O (by rw[yQ,hp];rfl);have D9:=L1.o p (yg hp);obtain⟨k,s0,pl,O4,R0,Q6⟩:=zah D9;have hk:p.ld.kind=k:=(by rw[Q6];rfl);have V9:k<8:=yO (yc.1 O4).1 ok.k8;have F1:Hid (st &&& (hpT t.ground L p).set=0↔qaK T i=false):=yK (by
    rw[qg3 hp,show st=setG (covT (T.take i)) t.ground from HQ.o.2.2.2.1.set];exact qe0 (ok.inG p D9))
   have A4:st<2 ^ 64:=(by rw[show st=setG (covT (T.take i)) t.ground from HQ.o.2.2.2.1.set];exact zbc ok.g64 _);have N7:okW (b0,b1,b2):=(by rw[show (b0,b1,b2)=wordsE (bordT (T.take i)) L from HQ.o.2.2.2.1.bord];exact zY _ _);have R2:okW (j0,j1,j2):=(by rw[show (j0,j1,j2)=wordsE (jointT (T.take i)) L from HQ.o.2.2.2.1.joint];exact zY _ _);have W1:mn k<=64:=(by rw[show mn k=manyT (T.take i) (k:Int)from HQ.o.2.2.2.1.many k];have:=qfq (T.take i) (k:Int);rw[Yf]at this;omega);have A8:(hpT t.ground L p).set<2 ^ 64:=zbc ok.g64 _;have C4:okW (hpT t.ground L p).bord:=zY _ _;have M2:(hpT t.ground L p).ld.kind=k:=hk;have T9:=yK (zl hp);have T8:=yK hk;obtain⟨hh,L5⟩:∃ hh,hpT t.ground L p=hh:=⟨_,rfl⟩;have M7:=yK L5;rw[L5]at A1 F1 A8 C4 M2;obtain⟨⟨kk,hm,ht,hx,hy⟩,pst,q0,q1,q2⟩:=hh;simp only at F1 A8 C4 M2;subst M2;clear O hp hk D9 O4 R0 Q6 L5;have g:(Tryz.prog.info? 152).map (·.size)=some (hpVals ⟨⟨k,hm,ht,hx,hy⟩,pst,(q0,q1,q2)⟩).toArray.size:=sizeP;have S:(hpVals ⟨⟨k,hm,ht,hx,hy⟩,pst,(q0,q1,q2)⟩).toArray.all (·.oneCell')=true:=(by simp[hpVals,Value.oneCell']);go_upto_region 20 with (first
    | (refine qo rfl 152 _ rfl rfl A1 ?_)
    | (refine wpList_store_row rfl 152 _ _ rfl wr.heap.size rfl 152 _ (hpVals ⟨⟨k,hm,ht,hx,hy⟩,pst,(q0,q1,q2)⟩).toArray rfl (yd wr _) g rfl S ?_;rw[World.setRow_alloc_new]))
   simp only[Act.put];have hP:(wr.alloc (.cells (hpVals ⟨⟨k,hm,ht,hx,hy⟩,pst,(q0,q1,q2)⟩).toArray 152)).heap[wr.heap.size]?=some (.cells #[.int .i64 k,.bool hm,.int .i64 ht,.int .i64 hx,.int .i64 hy,.int .u64 pst,.int .u64 q0,.int .u64 q1,.int .u64 q2] 152 (0,0)):=yd wr _;have hA:(wr.alloc (.cells (hpVals ⟨⟨k,hm,ht,hx,hy⟩,pst,(q0,q1,q2)⟩).toArray 152)).heap[sb]?=some (.cells #[.slice none 0 0,.int .u64 st,.int .u64 b0,.int .u64 b1,.int .u64 b2,.int .u64 j0,.int .u64 j1,.int .u64 j2,.int .i64 (mn 0),.int .i64 (mn 1),.int .i64 (mn 2),.int .i64 (mn 3),.int .i64 (mn 4),.int .i64 (mn 5),.int .i64 (mn 6),.int .i64 (mn 7)] 108 (0,0)):=heapO _ HQ.o.2.2.1;have V1:sb<wr.heap.size:=(ya.1 HQ.o.2.2.1).1;have hB:Below sb w1 (wr.alloc (.cells (hpVals ⟨⟨k,hm,ht,hx,hy⟩,pst,(q0,q1,q2)⟩).toArray 152)):=HQ.o.1.alloc (by omega) _;have hO:=qf HQ.o.2.1 ((yf _ wr).alloc (ye _) (.cells (hpVals ⟨⟨k,hm,ht,hx,hy⟩,pst,(q0,q1,q2)⟩).toArray 152));clear A1;revert hP hA hB hO;generalize wr.alloc (.cells (hpVals ⟨⟨k,hm,ht,hx,hy⟩,pst,(q0,q1,q2)⟩).toArray 152)=w3;have E2:wr.heap.size≠sb:=(by omega);revert E2;clear V1;generalize wr.heap.size=pb;intro E2 hP hA hB hO;have O5:=yK hO;clear hO;have M:=yK hB;clear hB;have a1:w3.cell? ⟨sb,1,none⟩=some (.int .u64 st):=(by simp only[World.cell?,hA];rfl);have f1:w3.frozen? ⟨sb,1,none⟩=false:=frozen_of_row w3 _ 1 _ _ hA;have p5:w3.cell? ⟨pb,5,none⟩=some (.int .u64 pst):=(by simp only[World.cell?,hP];rfl);by_cases hap:st &&& pst=0
   case neg =>
    have R9:=hA;have A3:=yK (B3.o w3 M.o);obtain⟨mm,Q4⟩:∃ mm,st &&& pst=mm:=⟨_,rfl⟩;have L9:Hid (qaK T i=true):=yK (by
     cases h:qaK T i with
     | true=>rfl
     | false=>exact absurd (F1.o.2 h) hap)
    have E5:bits .and .u64 (st:Int) (pst:Int)=(mm:Int):=(by rw[zbP A4 A8,Q4]);have S1:((mm:Int)==0)=false:=(by simp only[Yt,ne_eq];omega);have C9:¬ (mm:Int)=0:=(by omega);have T5:¬ mm=0:=(by omega);clear hap Q4;go_upto_region 21 with fail;clear a1 f1 p5 E5 S1 C9 T5 R9 hP;obtain⟨A,N,K,F,B⟩:=zbz #[.slice none 0 0,.int .u64 st,.int .u64 b0,.int .u64 b1,.int .u64 b2,.int .u64 j0,.int .u64 j1,.int .u64 j2,.int .i64 (mn 0),.int .i64 (mn 1),.int .i64 (mn 2),.int .i64 (mn 3),.int .i64 (mn 4),.int .i64 (mn 5),.int .i64 (mn 6),.int .i64 (mn 7)] rfl (by simp[Value.oneCell']);rw[N]at hA;refine qaz (n:=3) (i:=i) A3.o hA K F B (by omega) (by kernel_rfl) rfl rfl rfl rfl rfl rfl rfl rfl rfl rfl rfl rfl rfl rfl rfl rfl (Yj (by kernel_rfl)) (Yj (by kernel_rfl)) (Yj (by kernel_rfl)) (by decide) (λ _=>by kernel_rfl) (λ _=>by kernel_rfl) (λ _=>by kernel_rfl) ?_;intro cT w10 V H X G I;clear hA;go_wp2_with fail;refine Yc (zO rfl underlying135 rfl underlying108 rfl _ w10 w.heap.size (w.heap.size+1) cT A (0,0) (0,0) G H I K (by kernel_rfl) (by kernel_rfl)) rfl ?_;rw[<- C3.o];exact⟨3,i,A,by rw[V];rfl,(cov3 (t:=withB t js) L8.o (by rw[zo,J.o];exact I5.o) (by rw[zo,J.o];exact hlt) (by rw[zo,J.o];exact L9.o) (by rw[zo,J.o];exact HQ.o.2.2.2.2)).symm,X,F,B,λ h=>absurd h (by decide)⟩
   have L9:Hid (qaK T i=false):=yK (F1.o.1 hap);have E5:bits .and .u64 (st:Int) (pst:Int)=0:=(by rw[zbP A4 A8,hap];rfl);clear hap F1;have T0:=or64 A4 A8;go_upto_region 23 with fail;have A0:(w3.setCell ⟨sb,1,none⟩ (.int .u64 (st ||| pst:Nat))).heap[sb]?=some (.cells #[.slice none 0 0,.int .u64 (st ||| pst:Nat),.int .u64 b0,.int .u64 b1,.int .u64 b2,.int .u64 j0,.int .u64 j1,.int .u64 j2,.int .i64 (mn 0),.int .i64 (mn 1),.int .i64 (mn 2),.int .i64 (mn 3),.int .i64 (mn 4),.int .i64 (mn 5),.int .i64 (mn 6),.int .i64 (mn 7)] 108 (0,0)):=yI _ _ _ _ _ _ hA;have C6:=(yq w3 ⟨sb,1,none⟩ pb (.int .u64 (st ||| pst:Nat)) E2).trans hP;have C:=yK (M.o.setCell (p:=⟨sb,1,none⟩) (ye _) (.int .u64 (st ||| pst:Nat)));have I2:=yK (zq O5.o (a:=⟨sb,1,none⟩) (by simp only;omega) (.int .u64 (st ||| pst:Nat)));clear hA hP M O5 a1 f1 p5 E5 T0;revert A0 C6 C I2;generalize w3.setCell ⟨sb,1,none⟩ (.int .u64 (st ||| pst:Nat))=w4;intro A0 C6 C I2;have a2:∀ d:SubW w4,d.1.cell? ⟨sb,2,none⟩=some (.int .u64 b0):=λ d=>by simp[World.cell?,d.block A0]
   have a3:∀ d:SubW w4,d.1.cell? ⟨sb,3,none⟩=some (.int .u64 b1):=λ d=>by simp[World.cell?,d.block A0]
   have a4:∀ d:SubW w4,d.1.cell? ⟨sb,4,none⟩=some (.int .u64 b2):=λ d=>by simp[World.cell?,d.block A0]
   have a5:∀ d:SubW w4,d.1.cell? ⟨sb,5,none⟩=some (.int .u64 j0):=λ d=>by simp[World.cell?,d.block A0]
   have a6:∀ d:SubW w4,d.1.cell? ⟨sb,6,none⟩=some (.int .u64 j1):=λ d=>by simp[World.cell?,d.block A0]
   have a7:∀ d:SubW w4,d.1.cell? ⟨sb,7,none⟩=some (.int .u64 j2):=λ d=>by simp[World.cell?,d.block A0]
   have p6:∀ d:SubW w4,d.1.cell? ⟨pb,6,none⟩=some (.int .u64 q0):=λ d=>by simp[World.cell?,d.block C6]
   have p7:∀ d:SubW w4,d.1.cell? ⟨pb,7,none⟩=some (.int .u64 q1):=λ d=>by simp[World.cell?,d.block C6]
   have p8:∀ d:SubW w4,d.1.cell? ⟨pb,8,none⟩=some (.int .u64 q2):=λ d=>by simp[World.cell?,d.block C6]
   have D0:Hid (∀ d:SubW w4,Calls Tryz.prog 75 #[.agg #[.int .u64 b0,.int .u64 b1,.int .u64 b2],.agg #[.int .u64 q0,.int .u64 q1,.int .u64 q2]] d.1
    λ e w'=>e=.returned (.agg #[.int .u64 (b0 &&& q0:Nat),.int .u64 (b1 &&& q1:Nat),.int .u64 (b2 &&& q2:Nat)])/\∃ d':SubW w4,w'=d'.1):=yK λ d=>zdm (b0,b1,b2) (q0,q1,q2) N7 C4 d
   have F9:Hid (∀ d:SubW w4,Calls Tryz.prog 110 #[.agg #[.int .u64 j0,.int .u64 j1,.int .u64 j2],.agg #[.int .u64 (b0 &&& q0:Nat),.int .u64 (b1 &&& q1:Nat),.int .u64 (b2 &&& q2:Nat)]] d.1
    λ e w'=>e=.returned (.agg #[.int .u64 (j0 ||| (b0 &&& q0):Nat),.int .u64 (j1 ||| (b1 &&& q1):Nat),.int .u64 (j2 ||| (b2 &&& q2):Nat)])/\∃ d':SubW w4,w'=d'.1):=yK λ d=>or_q (j0,j1,j2) (andW (b0,b1,b2) (q0,q1,q2)) R2 (zdF C4) d
   refine zg 9 (by kernel_rfl) (by kernel_rfl) ?_;simp only[yh,yj,yi,yl]
   repeat (go_big_quiet_step ((first|exact D0.o _|exact F9.o _)))
   refine wpQuiet_nil ?_;intro dq;have D:=dq.block A0;have G6:=dq.block C6;have f:=yK (C.o.trans (dq.2.mono (by have:=C.o.size;have:=G5.o;omega)));have A6:=yK (qf I2.o dq.2);clear a2 a3 a4 a5 a6 a7 p6 p7 p8 D0 F9 A0 C6 C I2;revert D G6 f A6;generalize dq.1=w5;intro D G6 f A6;have af:∀ j,w5.frozen? ⟨sb,j,none⟩=false:=λ j=>frozen_of_row w5 _ j _ _ D;have a5:w5.cell? ⟨sb,5,none⟩=some (.int .u64 j0):=(by simp[World.cell?,D]);have a6:w5.cell? ⟨sb,6,none⟩=some (.int .u64 j1):=(by simp[World.cell?,D]);have a7:w5.cell? ⟨sb,7,none⟩=some (.int .u64 j2):=(by simp[World.cell?,D]);go_upto_region 24 with fail;have C2:(((w5.setCell ⟨sb,5,none⟩ (.int .u64 (j0 ||| (b0 &&& q0):Nat))).setCell ⟨sb,6,none⟩ (.int .u64 (j1 ||| (b1 &&& q1):Nat))).setCell ⟨sb,7,none⟩ (.int .u64 (j2 ||| (b2 &&& q2):Nat))).heap[sb]?=some (.cells #[.slice none 0 0,.int .u64 (st ||| pst:Nat),.int .u64 b0,.int .u64 b1,.int .u64 b2,.int .u64 (j0 ||| (b0 &&& q0):Nat),.int .u64 (j1 ||| (b1 &&& q1):Nat),.int .u64 (j2 ||| (b2 &&& q2):Nat),.int .i64 (mn 0),.int .i64 (mn 1),.int .i64 (mn 2),.int .i64 (mn 3),.int .i64 (mn 4),.int .i64 (mn 5),.int .i64 (mn 6),.int .i64 (mn 7)] 108 (0,0)):=zex D 5 6 7 (.int .u64 (j0 ||| (b0 &&& q0):Nat)) (.int .u64 (j1 ||| (b1 &&& q1):Nat)) (.int .u64 (j2 ||| (b2 &&& q2):Nat));have B9:=(qd0 w5 E2 5 6 7 (.int .u64 (j0 ||| (b0 &&& q0):Nat)) (.int .u64 (j1 ||| (b1 &&& q1):Nat)) (.int .u64 (j2 ||| (b2 &&& q2):Nat))).trans G6;have B7:=yK (qd3 f.o (ye sb) 5 6 7 (.int .u64 (j0 ||| (b0 &&& q0):Nat)) (.int .u64 (j1 ||| (b1 &&& q1):Nat)) (.int .u64 (j2 ||| (b2 &&& q2):Nat)));have B4:=yK (zeJ A6.o (Nat.lt_succ_self sb) 5 6 7 (.int .u64 (j0 ||| (b0 &&& q0):Nat)) (.int .u64 (j1 ||| (b1 &&& q1):Nat)) (.int .u64 (j2 ||| (b2 &&& q2):Nat)));clear D G6 f A6 a5 a6 a7 af;revert C2 B9 B7 B4;generalize (((w5.setCell ⟨sb,5,none⟩ (.int .u64 (j0 ||| (b0 &&& q0):Nat))).setCell ⟨sb,6,none⟩ (.int .u64 (j1 ||| (b1 &&& q1):Nat))).setCell ⟨sb,7,none⟩ (.int .u64 (j2 ||| (b2 &&& q2):Nat)))=w6;intro C2 B9 B7 B4;have a2:w6.cell? ⟨sb,2,none⟩=some (.int .u64 b0):=(by simp[World.cell?,C2]);have a3:w6.cell? ⟨sb,3,none⟩=some (.int .u64 b1):=(by simp[World.cell?,C2]);have a4:w6.cell? ⟨sb,4,none⟩=some (.int .u64 b2):=(by simp[World.cell?,C2]);have p6:w6.cell? ⟨pb,6,none⟩=some (.int .u64 q0):=(by simp[World.cell?,B9]);have p7:w6.cell? ⟨pb,7,none⟩=some (.int .u64 q1):=(by simp[World.cell?,B9]);have p8:w6.cell? ⟨pb,8,none⟩=some (.int .u64 q2):=(by simp[World.cell?,B9]);have F9:Hid (Calls Tryz.prog 110 #[.agg #[.int .u64 b0,.int .u64 b1,.int .u64 b2],.agg #[.int .u64 q0,.int .u64 q1,.int .u64 q2]] w6
    λ e w'=>e=.returned (.agg #[.int .u64 (b0 ||| q0:Nat),.int .u64 (b1 ||| q1:Nat),.int .u64 (b2 ||| q2:Nat)])/\Grew w6 w'):=yK (qfr (b0,b1,b2) (q0,q1,q2) N7 C4 w6)
   go_wp2_with fail;refine F9.o.mono ?_;rintro e w7 ⟨rfl,I3⟩;have F8:=I3.below;have D5:=(F8.block _ (ya.1 C2).1).trans C2;have P8:=(F8.block _ (ya.1 B9).1).trans B9;have N9:=yK (B7.o.trans (F8.mono (by have:=B7.o.size;have:=G5.o;omega)));have N8:=yK (qf B4.o F8);clear a2 a3 a4 p6 p7 p8 F9 C2 B9 B7 B4 I3 F8;have af:∀ j,w7.frozen? ⟨sb,j,none⟩=false:=λ j=>frozen_of_row w7 _ j _ _ D5;have a2:w7.cell? ⟨sb,2,none⟩=some (.int .u64 b0):=(by simp[World.cell?,D5]);have a3:w7.cell? ⟨sb,3,none⟩=some (.int .u64 b1):=(by simp[World.cell?,D5]);have a4:w7.cell? ⟨sb,4,none⟩=some (.int .u64 b2):=(by simp[World.cell?,D5]);go_upto_region 25 with fail;have D7:(((w7.setCell ⟨sb,2,none⟩ (.int .u64 (b0 ||| q0:Nat))).setCell ⟨sb,3,none⟩ (.int .u64 (b1 ||| q1:Nat))).setCell ⟨sb,4,none⟩ (.int .u64 (b2 ||| q2:Nat))).heap[sb]?=some (.cells #[.slice none 0 0,.int .u64 (st ||| pst:Nat),.int .u64 (b0 ||| q0:Nat),.int .u64 (b1 ||| q1:Nat),.int .u64 (b2 ||| q2:Nat),.int .u64 (j0 ||| (b0 &&& q0):Nat),.int .u64 (j1 ||| (b1 &&& q1):Nat),.int .u64 (j2 ||| (b2 &&& q2):Nat),.int .i64 (mn 0),.int .i64 (mn 1),.int .i64 (mn 2),.int .i64 (mn 3),.int .i64 (mn 4),.int .i64 (mn 5),.int .i64 (mn 6),.int .i64 (mn 7)] 108 (0,0)):=zex D5 2 3 4 (.int .u64 (b0 ||| q0:Nat)) (.int .u64 (b1 ||| q1:Nat)) (.int .u64 (b2 ||| q2:Nat));have H7:=(qd0 w7 E2 2 3 4 (.int .u64 (b0 ||| q0:Nat)) (.int .u64 (b1 ||| q1:Nat)) (.int .u64 (b2 ||| q2:Nat))).trans P8;have G2:=yK (qd3 N9.o (ye sb) 2 3 4 (.int .u64 (b0 ||| q0:Nat)) (.int .u64 (b1 ||| q1:Nat)) (.int .u64 (b2 ||| q2:Nat)));have H4:=yK (zeJ N8.o (Nat.lt_succ_self sb) 2 3 4 (.int .u64 (b0 ||| q0:Nat)) (.int .u64 (b1 ||| q1:Nat)) (.int .u64 (b2 ||| q2:Nat)));clear D5 P8 N9 N8 a2 a3 a4 af;revert D7 H7 G2 H4;generalize (((w7.setCell ⟨sb,2,none⟩ (.int .u64 (b0 ||| q0:Nat))).setCell ⟨sb,3,none⟩ (.int .u64 (b1 ||| q1:Nat))).setCell ⟨sb,4,none⟩ (.int .u64 (b2 ||| q2:Nat)))=w8;intro D7 H7 G2 H4;have af:∀ j,w8.frozen? ⟨sb,j,none⟩=false:=λ j=>frozen_of_row w8 _ j _ _ D7;have ak:w8.cell? ⟨sb,8+k,none⟩=some (.int .i64 (mn k)):=by
    rcases (by omega:k=0\/k=1\/k=2\/k=3\/k=4\/k=5\/k=6\/k=7)with rfl|rfl|rfl|rfl|rfl|rfl|rfl|rfl <;> simp[World.cell?,D7]
   have p0:w8.cell? ⟨pb,0,none⟩=some (.int .i64 k):=(by simp[World.cell?,H7]);go_upto_region 26 with fail;have Q3:(w8.setCell ⟨sb,8+k,none⟩ (.int .i64 ((mn k:Int)+1))).heap[sb]?=some (.cells (hsVals (stC (st ||| pst) (b0 ||| q0) (b1 ||| q1) (b2 ||| q2) (j0 ||| (b0 &&& q0)) (j1 ||| (b1 &&& q1)) (j2 ||| (b2 &&& q2)) λ j=>if j=k then mn k+1 else mn j)).toArray 108 (0,0)):=by
    rw[yI _ _ _ _ _ _ D7];rcases (by omega:k=0\/k=1\/k=2\/k=3\/k=4\/k=5\/k=6\/k=7)with rfl|rfl|rfl|rfl|rfl|rfl|rfl|rfl <;> simp[hsVals,stC]
   have J7:=yK Q3;clear Q3;have J8:=yK (G2.o.setCell (p:=⟨sb,8+k,none⟩) (ye _) (.int .i64 ((mn k:Int)+1)));have M4:=yK (zq H4.o (a:=⟨sb,8+k,none⟩) (Nat.lt_succ_self sb) (.int .i64 ((mn k:Int)+1)));clear D7 H7 G2 H4 af ak p0;revert J7 J8 M4;generalize w8.setCell ⟨sb,8+k,none⟩ (.int .i64 ((mn k:Int)+1))=w9;intro J7 J8 M4;go_wp2_with fail
   go_roundw
   case rel =>
    refine⟨i+1,st ||| pst,b0 ||| q0,b1 ||| q1,b2 ||| q2,j0 ||| (b0 &&& q0),j1 ||| (b1 &&& q1),j2 ||| (b2 &&& q2),λ j=>if j=k then mn k+1 else mn j,by omega,by go_num,yK ⟨J8.o,?_,J7.o,?_,?_⟩⟩
    ·exact M4.o
    ·rw[T9.o];exact st_snoc HQ.o.2.2.2.1 T8.o (by rw[M7.o];rfl) (by rw[M7.o];rfl) (by rw[M7.o];rfl) rfl
    intro m hm;rcases (by omega:m<i\/m=i)with h|rfl
    ·exact HQ.o.2.2.2.2 m h
    exact L9.o
   case measure=>simp only[intOf];omega
  obtain rfl:i=T.length:=by omega
  have hQ:=HQ.o;rw[Yd]at hQ;obtain⟨N5,N2,I1,P3,P0⟩:=hQ;have D1:=yK P3;have E3:Hid (Cov3 (withB t js) l):=yK ⟨L8.o,(by rw[zo,J.o];exact I5.o),(by rw[zo,J.o];exact P0)⟩;clear P3 P0 HQ;have q0:wr.cell? ⟨sb,0,none⟩=some (.slice none 0 0):=by simp only[World.cell?,I1];rfl
  have f0:wr.frozen? ⟨sb,0,none⟩=false:=frozen_of_row wr _ 0 _ _ I1;go_upto_region 28 with fail;clear q0 f0;have D:(wr.setCell ⟨sb,0,none⟩ (.slice qp T.length qc)).heap[sb]?=some (.cells #[.slice qp T.length qc,.int .u64 st,.int .u64 b0,.int .u64 b1,.int .u64 b2,.int .u64 j0,.int .u64 j1,.int .u64 j2,.int .i64 (mn 0),.int .i64 (mn 1),.int .i64 (mn 2),.int .i64 (mn 3),.int .i64 (mn 4),.int .i64 (mn 5),.int .i64 (mn 6),.int .i64 (mn 7)] 108 (0,0)):=yI _ _ _ _ _ _ I1;have f:=yK (N5.setCell (p:=⟨sb,0,none⟩) (ye _) (.slice qp T.length qc));have A6:=yK (zq N2 (a:=⟨sb,0,none⟩) (Nat.lt_succ_self sb) (.slice qp T.length qc));clear N5 N2 I1;revert D f A6;generalize wr.setCell ⟨sb,0,none⟩ (.slice qp T.length qc)=w5;intro D f A6;have C7:=B3.o w5 f.o;have A5:=C7.bd.blk;obtain⟨vg,vk,W6,vf,vb,qm,em,pv,P4⟩:=bv;obtain⟨gp,gc,O8⟩:=C7.bd.ground.slice;obtain⟨cp,cc,J2⟩:=C7.bd.counts.slice;obtain⟨fp,fc,P2⟩:=C7.bd.fixed.slice;obtain⟨kp,kc,O3⟩:=C7.bel.slice;simp only at O8 J2 P2 O3;subst O8 J2 P2 O3;have c0:w5.cell? ⟨bb,0,none⟩=some (.slice gp t.ground.length gc):=by simp only[World.cell?,A5];rfl
  have c2:w5.cell? ⟨bb,2,none⟩=some (.slice cp t.counts.length cc):=by simp only[World.cell?,A5];rfl
  have c3:w5.cell? ⟨bb,3,none⟩=some (.slice fp t.fixed.length fc):=by simp only[World.cell?,A5];rfl
  have s1:w5.cell? ⟨sb,1,none⟩=some (.int .u64 st):=by simp only[World.cell?,D];rfl
  have F4:st=setG (covT T) t.ground:=D1.o.set;have A4:st<2 ^ 64:=by rw[F4];exact zbc ok.g64 _
  have M9:Hid (∀ i q,t.ground[i]?=some q->(bits .and .u64 ((st:Int) / 2 ^ i) 1==0)=qaE (withB t js) T i):=yK λ i q hq=>by
   rw[zfm A4,qhP (t:=withB t js) hq,F4,qG,hq]
  have A2:=yK C7;clear C7 A5 F4 A4;have V6:=ok.g64;have h8:t.counts.length<=8:=by rw[ok.clen];exact ok.k8
  have R6:=yK h8;clear h8;go_wp2_with fail;go_loopw [127] (λ z wq=>∃ i:Nat,i<=t.ground.length/\z=.int .i64 i/\wq=w5/\Hid (∀ j,j<i->qaE (withB t js) T j=false)) (λ z _=>t.ground.length-(intOf z).toNat)
  case atStart=>exact⟨0,YC _,rfl,rfl,yK (λ j hj=>absurd hj (by omega))⟩
  obtain⟨i,hi,rfl,rfl,D4⟩:=hrel;by_cases hlt2:i<t.ground.length
  case pos =>
   obtain⟨q,hq⟩:∃ q,t.ground[i]?=some q:=⟨_,yb hlt2⟩;have I8:=M9.o i q hq;have R4:(0:Int)<=i:=(by omega);have V2:(i:Int)<=64:=(by omega);clear hq;obtain⟨r4,M3⟩:∃ r4,qaE (withB t js) T i=r4:=⟨_,rfl⟩;rw[M3]at I8;have Q5:=yK M3;clear M3
   cases r4 with
   | false =>
    go_wp2_with fail
    go_roundw
    case rel=>exact⟨i+1,by omega,by go_num,trivial,yK (λ j hj=>by
     rcases (by omega:j<i\/j=i)with h|rfl
     ·exact D4.o j h
     exact Q5.o)⟩
    case measure=>simp only[intOf];omega
   | true =>
    go_upto_region 32 with fail;clear c0 c2 c3 s1 I8 R4 V2;have hA:=D;obtain⟨A,N,K,F,B⟩:=zbz #[.slice qp T.length qc,.int .u64 st,.int .u64 b0,.int .u64 b1,.int .u64 b2,.int .u64 j0,.int .u64 j1,.int .u64 j2,.int .i64 (mn 0),.int .i64 (mn 1),.int .i64 (mn 2),.int .i64 (mn 3),.int .i64 (mn 4),.int .i64 (mn 5),.int .i64 (mn 6),.int .i64 (mn 7)] rfl (by simp[Value.oneCell']);rw[N]at hA;refine qaz (n:=4) (i:=i) A2.o hA K F B (by omega) (by kernel_rfl) rfl rfl rfl rfl rfl rfl rfl rfl rfl rfl rfl rfl rfl rfl rfl rfl (Yj (by kernel_rfl)) (Yj (by kernel_rfl)) (Yj (by kernel_rfl)) (by decide) (λ _=>by kernel_rfl) (λ _=>by kernel_rfl) (λ _=>by kernel_rfl) ?_;intro cT w10 V H X G I;clear hA;go_wp2_with fail;refine Yc (zO rfl underlying135 rfl underlying108 rfl _ w10 w.heap.size (w.heap.size+1) cT A (0,0) (0,0) G H I K (by kernel_rfl) (by kernel_rfl)) rfl ?_;rw[<- C3.o];exact⟨4,i,A,by rw[V];rfl,(cov4 (t:=withB t js) E3.o hlt2 (by rw[zo,J.o];exact Q5.o) (by rw[zo,J.o];exact D4.o)).symm,X,F,B,λ h=>absurd h (by decide)⟩
  obtain rfl:i=t.ground.length:=by omega
  clear hlt2;go_wp2_with fail;have T1:Hid (∀ i (c:Int),t.counts[i]?=some c->zaE (withB t js) T i=decide (¬ ((mn i:Nat):Int)=c)):=yK λ i c hc=>by
   have h1:=D1.o.many i;have h2:mn i=manyT T (i:Int):=h1;rw[zhw (t:=withB t js) hc,h2]
  go_loopw [146] (λ z wq=>∃ i:Nat,i<=t.counts.length/\z=.int .i64 i/\wq=wr/\Hid (∀ j,j<i->zaE (withB t js) T j=false)) (λ z _=>t.counts.length-(intOf z).toNat)
  case atStart=>exact⟨0,YC _,rfl,rfl,yK (λ j hj=>absurd hj (by omega))⟩
  obtain⟨i,hi,rfl,rfl,F5⟩:=hrel;by_cases hlt2:i<t.counts.length
  case pos =>
   have h8:=R6.o;obtain⟨c,hc⟩:∃ c,t.counts[i]?=some c:=⟨_,yb hlt2⟩;obtain⟨ca,rfl,O⟩:=A2.o.bd.counts.at_ (by rintro e;rw[e]at hc;simp at hc);have M6:wr.cell? (ca.add i)=some (.int .i64 c):=RI.at_cell O hc;have J3:=yK (T1.o i c hc);have T7:wr.cell? ⟨sb,8+i,none⟩=some (.int .i64 (mn i)):=by
    rcases (by omega:i=0\/i=1\/i=2\/i=3\/i=4\/i=5\/i=6\/i=7)with rfl|rfl|rfl|rfl|rfl|rfl|rfl|rfl <;> simp[World.cell?,D]
   clear hc O;by_cases hmc:((mn i:Nat):Int)=c
   case pos =>
    have D6:Hid (zaE (withB t js) T i=false):=yK (by rw[J3.o];exact yv λ h=>h hmc);clear J3;subst hmc;go_wp2_with fail
    go_roundw
    case rel=>exact⟨i+1,by omega,by go_num,trivial,yK (λ j hj=>by
     rcases (by omega:j<i\/j=i)with h|rfl
     ·exact F5.o j h
     exact D6.o)⟩
    case measure=>simp only[intOf];omega
   have D6:Hid (zaE (withB t js) T i=true):=yK (by rw[J3.o];exact yw hmc);have R8:(((mn i:Nat):Int)==c)=false:=(by simp only[Yt,ne_eq];exact hmc);go_upto_region 38 with fail;clear c0 c2 c3 s1 M6 T7 R8 hmc h8;have hA:=D;obtain⟨A,N,K,F,B⟩:=zbz #[.slice qp T.length qc,.int .u64 st,.int .u64 b0,.int .u64 b1,.int .u64 b2,.int .u64 j0,.int .u64 j1,.int .u64 j2,.int .i64 (mn 0),.int .i64 (mn 1),.int .i64 (mn 2),.int .i64 (mn 3),.int .i64 (mn 4),.int .i64 (mn 5),.int .i64 (mn 6),.int .i64 (mn 7)] rfl (by simp[Value.oneCell']);rw[N]at hA;refine qaz (n:=5) (i:=i) A2.o hA K F B (by omega) (by kernel_rfl) rfl rfl rfl rfl rfl rfl rfl rfl rfl rfl rfl rfl rfl rfl rfl rfl (Yj (by kernel_rfl)) (Yj (by kernel_rfl)) (Yj (by kernel_rfl)) (by decide) (λ _=>by kernel_rfl) (λ _=>by kernel_rfl) (λ _=>by kernel_rfl) ?_;intro cT w10 V H X G I;clear hA;go_wp2_with fail;refine Yc (zO rfl underlying135 rfl underlying108 rfl _ w10 w.heap.size (w.heap.size+1) cT A (0,0) (0,0) G H I K (by kernel_rfl) (by kernel_rfl)) rfl ?_;rw[<- C3.o];exact⟨5,i,A,by rw[V];rfl,(cov5 (t:=withB t js) E3.o (by rw[zo,J.o];exact D4.o) hlt2 (by rw[zo,J.o];exact D6.o) (by rw[zo,J.o];exact F5.o)).symm,X,F,B,λ h=>absurd h (by decide)⟩
  obtain rfl:i=t.counts.length:=by omega
  clear hlt2;clear c0 c2 s1;have c4:wr.cell? ⟨bb,4,none⟩=some (.slice kp js.length kc):=by simp only[World.cell?,A2.o.bd.blk];rfl
  go_wp2_with fail;clear c3;obtain⟨wB,S2⟩:∃ z,z=wr:=⟨_,rfl⟩;subst S2;have E0:Hid (∀ W,Below wB.heap.size wB W->CgI t js L w bb ⟨.slice gp t.ground.length gc,vk,.slice cp t.counts.length cc,.slice fp t.fixed.length fc,.slice kp js.length kc,qm,em,pv,P4⟩ l (.slice vp l.length vc) W):=yK λ W h=>A2.o.keep h;have H6:=yK D;clear D;have E1:sb<wB.heap.size:=(ya.1 H6.o).1;go_loopw [167] (λ z wq=>∃ i:Nat,i<=t.fixed.length/\z=.int .i64 i/\Hid (Below wB.heap.size wB wq/\∀ j,j<i->qaR (withB t js) l j=false)) (λ z _=>t.fixed.length-(intOf z).toNat)
  case atStart=>exact⟨0,YC _,rfl,yK ⟨yf _ _,λ j hj=>absurd hj (by omega)⟩⟩
  clear c4;obtain⟨i,hi,rfl,HR⟩:=hrel;by_cases hlt2:i<t.fixed.length
  case pos =>
   obtain⟨x,hx⟩:∃ x,t.fixed[i]?=some x:=⟨_,yb hlt2⟩;obtain⟨xa,rfl,O⟩:=(E0.o wr HR.o.1).bd.fixed.at_ (by rintro e;rw[e]at hx;simp at hx);have A1:(Instr.loadAt 50 (.pointer (some (xa.add (i*5))))).run Tryz.prog wr=.ok (.agg (ldVals x).toArray) wr:=zn (P:=Tryz.prog) (R:=RL) underlying50 rfl sizeL O hx;have D6:=yK (zhd (t:=withB t js) (l:=l) hx);clear O hx;have B1:(Tryz.prog.info? 50).map (·.size)=some (ldVals x).toArray.size:=sizeL;have B6:(ldVals x).toArray.all (·.oneCell')=true:=(by simp[ldVals,Value.oneCell']);go_upto_region 43 with (first
    | (refine qo rfl 50 _ rfl rfl A1 ?_)
    | (refine wpList_store_row rfl 50 _ _ rfl wr.heap.size rfl 50 _ (ldVals x).toArray rfl (yd wr _) B1 rfl B6 ?_;rw[World.setRow_alloc_new]))
   have A9:=yd wr (.cells (ldVals x).toArray 50);have y:Below wB.heap.size wB (wr.alloc (.cells (ldVals x).toArray 50)):=HR.o.1.alloc HR.o.1.size _;clear A1;revert A9 y;generalize wr.alloc (.cells (ldVals x).toArray 50)=w3;generalize wr.heap.size=pb;intro A9 y;have O7:=yK (zfB l _ x w3 (E0.o w3 y).arg (by omega));have M:=yK y;clear y;go_wp2_with (refine Yb rfl 50 _ rfl pb rfl 50 (ldVals x).toArray (0,0) _ A9 underlying50 rfl B1 ?_);refine O7.o.mono ?_;rintro e w4 ⟨rfl,C8⟩;have C:=yK (M.o.tm C8);clear A9 C8 O7 M B1 B6;by_cases hm:x∈l
   case pos =>
    have C5:Hid (qaR (withB t js) l i=false):=yK (by rw[D6.o];exact yv λ h=>h hm);rw[yw hm];clear hm;go_wp2_with fail
    go_roundw
    case rel=>exact⟨i+1,by omega,by go_num,yK ⟨C.o,λ j hj=>by
     rcases (by omega:j<i\/j=i)with h|rfl
     ·exact HR.o.2 j h
     exact C5.o⟩⟩
    case measure=>simp only[intOf];omega
   have C5:Hid (qaR (withB t js) l i=true):=yK (by rw[D6.o];exact yw hm);rw[yv hm];clear hm;have hA:=(C.o.block sb E1).trans H6.o;have A3:=yK (E0.o w4 C.o);go_upto_region 44 with fail;obtain⟨A,N,K,F,B⟩:=zbz #[.slice qp T.length qc,.int .u64 st,.int .u64 b0,.int .u64 b1,.int .u64 b2,.int .u64 j0,.int .u64 j1,.int .u64 j2,.int .i64 (mn 0),.int .i64 (mn 1),.int .i64 (mn 2),.int .i64 (mn 3),.int .i64 (mn 4),.int .i64 (mn 5),.int .i64 (mn 6),.int .i64 (mn 7)] rfl (by simp[Value.oneCell']);rw[N]at hA;refine qaz (n:=6) (i:=i) A3.o hA K F B (by omega) (by kernel_rfl) rfl rfl rfl rfl rfl rfl rfl rfl rfl rfl rfl rfl rfl rfl rfl rfl (Yj (by kernel_rfl)) (Yj (by kernel_rfl)) (Yj (by kernel_rfl)) (by decide) (λ _=>by kernel_rfl) (λ _=>by kernel_rfl) (λ _=>by kernel_rfl) ?_;intro cT w10 V H X G I;clear hA;go_wp2_with fail;refine Yc (zO rfl underlying135 rfl underlying108 rfl _ w10 w.heap.size (w.heap.size+1) cT A (0,0) (0,0) G H I K (by kernel_rfl) (by kernel_rfl)) rfl ?_;rw[<- C3.o];exact⟨6,i,A,by rw[V];rfl,(cov6 (t:=withB t js) E3.o (by rw[zo,J.o];exact D4.o) (by rw[zo,J.o];exact F5.o) hlt2 C5.o HR.o.2).symm,X,F,B,λ h=>absurd h (by decide)⟩
  obtain rfl:i=t.fixed.length:=by omega
  clear hlt2;have N6:=yK HR.o.2;have H2:=yK HR.o.1;clear HR;obtain⟨wC,R3⟩:∃ z,z=wr:=⟨_,rfl⟩;subst R3;have J6:=yK (E0.o wC H2.o);have D8:=J6.o.bd.blk;have c4:wC.cell? ⟨bb,4,none⟩=some (.slice kp js.length kc):=by simp only[World.cell?,D8];rfl
  clear D8;have C1:Hid (∀ W,Below wC.heap.size wC W->CgI t js L w bb ⟨.slice gp t.ground.length gc,vk,.slice cp t.counts.length cc,.slice fp t.fixed.length fc,.slice kp js.length kc,qm,em,pv,P4⟩ l (.slice vp l.length vc) W/\W.heap[sb]?=wC.heap[sb]?):=yK λ W h=>⟨J6.o.keep h,h.block sb (yO E1 H2.o.size)⟩;have H8:=yK ((H2.o.block sb E1).trans H6.o);have O9:=yK (qf A6.o H2.o);clear J6 H6 E0;go_wp2_with fail;clear c4;go_loopw [186] (λ z wq=>∃ i:Nat,i<=js.length/\z=.int .i64 i/\Hid (Below wC.heap.size wC wq/\∀ j,j<i->zaO (withB t js) T j=false)) (λ z _=>js.length-(intOf z).toNat)
  case atStart=>exact⟨0,YC _,rfl,yK ⟨yf _ _,λ j hj=>absurd hj (by omega)⟩⟩
  obtain⟨i,hi,rfl,HR⟩:=hrel;by_cases hlt2:i<js.length
  case pos =>
   obtain⟨e,he⟩:∃ e,js[i]?=some e:=⟨_,yb hlt2⟩;obtain⟨xa,rfl,O⟩:=(C1.o wr HR.o.1).1.bel.at_ (by rintro e';rw[e']at he;simp at he);have A1:(Instr.loadAt 61 (.pointer (some (xa.add (i*3))))).run Tryz.prog wr=.ok (.agg (eVals e).toArray) wr:=zn (P:=Tryz.prog) (R:=RE) underlying61 rfl (by kernel_rfl) O he;have C5:=yK (qhy (t:=withB t js) (T:=T) he);have S9:=yK (S6.o e (yg he));clear O he;have J0:(Tryz.prog.info? 61).map (·.size)=some (eVals e).toArray.size:=(by kernel_rfl);have F7:(eVals e).toArray.all (·.oneCell')=true:=(by simp[eVals,Value.oneCell']);go_upto_region 49 with (first
    | (refine qo rfl 61 _ rfl rfl A1 ?_)
    | (refine wpList_store_row rfl 61 _ _ rfl wr.heap.size rfl 61 _ (eVals e).toArray rfl (yd wr _) J0 rfl F7 ?_;rw[World.setRow_alloc_new]))
   simp only[Act.put];have hC:=yd wr (.cells (eVals e).toArray 61);have y:Below wC.heap.size wC (wr.alloc (.cells (eVals e).toArray 61)):=HR.o.1.alloc HR.o.1.size _;clear A1 J0 F7;revert hC y;generalize wr.alloc (.cells (eVals e).toArray 61)=w3;generalize wr.heap.size=pb;intro hC y;have M:=yK y;clear y;have D8:=(C1.o w3 M.o).1.bd;have C9:=D8.edge;have A5:=D8.blk;clear D8;simp only at C9 A5;obtain⟨ex,ey,ek⟩:=e;have d1:∀ d:SubW w3,d.1.cell? ⟨bb,6,none⟩=some (.map (some em)):=λ d=>by simp only[World.cell?,d.block A5];rfl
   have d2:∀ d:SubW w3,d.1.cell? ⟨pb,0,none⟩=some (.int .i64 ex):=λ d=>by simp[World.cell?,d.block hC,eVals]
   have d3:∀ d:SubW w3,d.1.cell? ⟨pb,1,none⟩=some (.int .i64 ey):=λ d=>by simp[World.cell?,d.block hC,eVals]
   have d4:∀ d:SubW w3,d.1.cell? ⟨pb,2,none⟩=some (.int .i64 ek):=λ d=>by simp[World.cell?,d.block hC,eVals]
   have G7:∀ p∈numE L,okE p.1:=λ p hp=>S0.o p.1 (by rw[<- qZ L];exact yP.2 ⟨p,hp,rfl⟩);clear hC A5;by_cases hin:(⟨ex,ey,ek⟩:E)∈L
   case neg =>
    have d5:∀ d:SubW w3,(Instr.lookup 147 (.map (some em)) (.agg #[.int .i64 ex,.int .i64 ey,.int .i64 ek]) true).run Tryz.prog d.1=.ok (.tuple #[.int .i64 0,.bool false]) d.1:=λ d =>
     zM encE underlying147 (zeroValue3 _) (HasM.below C9 d.2) G7 S9.o (λ p hp e=>hin (by rw[<- qZ L];exact yP.2 ⟨p,hp,e⟩)) true
    have F0:Hid (zaO (withB t js) T i=false):=yK (by
     rw[C5.o];unfold jointT;rw[List.filter_eq_nil_iff.2 λ p hp=>by
      rw[decide_eq_true_iff];exact λ hb=>hin (ok.inL p (L1.o p hp) _ hb)]
     rfl)
    clear C9 G7 hin;refine zg 11 (by kernel_rfl) (by kernel_rfl) ?_;simp only[yh,yj,yi,yl]
    repeat (go_big_quiet_step (fail))
    refine wpQuiet_nil ?_;intro dq;have C:=yK (M.o.tm dq.2);clear d1 d2 d3 d4 d5;revert C;generalize dq.1=w4;intro C;go_upto_region 50 with fail;refine zg 11 (by kernel_rfl) (by kernel_rfl) ?_;simp only[yh,yj,yi,yl]
    repeat (go_big_quiet_step (fail))
    refine wpQuiet_nil ?_;intro dq;have f:=yK (C.o.tm dq.2);revert f;generalize dq.1=w5;intro f;go_wp2_with fail
    go_roundw
    case rel=>exact⟨i+1,by omega,by go_num,yK ⟨f.o,λ j hj=>by
     rcases (by omega:j<i\/j=i)with h|rfl
     ·exact HR.o.2 j h
     exact F0.o⟩⟩
    case measure=>simp only[intOf];omega
   obtain⟨n,hn⟩:=yV hin;have N3:n<192:=yO (yc.1 hn).1 ok.l192;have d5:∀ d:SubW w3,(Instr.lookup 147 (.map (some em)) (.agg #[.int .i64 ex,.int .i64 ey,.int .i64 ek]) true).run Tryz.prog d.1=.ok (.tuple #[.int .i64 n,.bool true]) d.1:=λ d =>
    qC encE underlying147 (HasM.below C9 d.2) G7 (by rw[qZ];exact P7.o) (qb4 hn) true
   have T2:=yK hn;clear C9 G7 hin hn;refine zg 11 (by kernel_rfl) (by kernel_rfl) ?_;simp only[yh,yj,yi,yl]
   repeat (go_big_quiet_step (fail))
   refine wpQuiet_nil ?_;intro dq;have C:=yK (M.o.tm dq.2);clear d1 d2 d3 d4 d5;revert C;generalize dq.1=w4;intro C;have A0:=(C1.o w4 C.o).2.trans H8.o;have a5:∀ d:SubW w4,d.1.cell? ⟨sb,5,none⟩=some (.int .u64 j0):=λ d=>by simp[World.cell?,d.block A0]
   have a6:∀ d:SubW w4,d.1.cell? ⟨sb,6,none⟩=some (.int .u64 j1):=λ d=>by simp[World.cell?,d.block A0]
   have a7:∀ d:SubW w4,d.1.cell? ⟨sb,7,none⟩=some (.int .u64 j2):=λ d=>by simp[World.cell?,d.block A0]
   have M5:(j0,j1,j2)=wordsE (jointT T) L:=D1.o.joint;have I6:okW (j0,j1,j2):=(by rw[M5];exact zY _ _);obtain⟨⟨y0,y1,y2⟩,hY⟩:∃ Y,withW (0,0,0) n=Y:=⟨_,rfl⟩;obtain⟨⟨z0,z1,z2⟩,hZ⟩:∃ Z,andW (j0,j1,j2) (y0,y1,y2)=Z:=⟨_,rfl⟩;have I7:okW (y0,y1,y2):=(by rw[<- hY];exact qel (x:=(0,0,0)) ⟨by decide,by decide,by decide⟩ N3);have G8:Hid (∀ d:SubW w4,Calls Tryz.prog 106 #[.agg #[.int .u64 0,.int .u64 0,.int .u64 0],.int .i64 n] d.1 λ e w'=>e=.returned (.agg #[.int .u64 y0,.int .u64 y1,.int .u64 y2])/\∃ d':SubW w4,w'=d'.1):=yK λ d=>by
    have:=qcf (0,0,0) n ⟨by decide,by decide,by decide⟩ N3 d.1;rw[hY]at this;refine this.mono ?_;rintro e w' ⟨rfl,hb⟩;exact⟨rfl,⟨w',d.2.tm hb⟩,rfl⟩
   have D0:Hid (∀ d:SubW w4,Calls Tryz.prog 75 #[.agg #[.int .u64 j0,.int .u64 j1,.int .u64 j2],.agg #[.int .u64 y0,.int .u64 y1,.int .u64 y2]] d.1 λ e w'=>e=.returned (.agg #[.int .u64 z0,.int .u64 z1,.int .u64 z2])/\∃ d':SubW w4,w'=d'.1):=yK λ d=>by
    have:=zdm (j0,j1,j2) (y0,y1,y2) I6 I7 d;rw[hZ]at this;exact this
   have Q2:Hid (((z0,z1,z2):W3)=(0,0,0)↔jointT T ⟨ex,ey,ek⟩=false):=yK (by rw[<- hZ,<- hY,M5];exact zcO P7.o ok.l192 T2.o (jointT T));clear hY hZ I7 I6 M5 A0;go_upto_region 50 with fail
   cases hp:jointT T ⟨ex,ey,ek⟩with
   | false =>
    have G0:((z0,z1,z2):W3)=(0,0,0):=Q2.o.2 hp;have E7:∀ d:SubW w4,(Op.equalIn 10000 105 (.agg #[.int .u64 z0,.int .u64 z1,.int .u64 z2]) (.agg #[.int .u64 0,.int .u64 0,.int .u64 0])).run Tryz.prog d.1=.ok true d.1:=λ d=>(qbv (z0,z1,z2) (0,0,0) d.1).trans (by rw[yw G0]);have F0:Hid (zaO (withB t js) T i=false):=yK (C5.o.trans hp);clear G0 hp;refine zg 11 (by kernel_rfl) (by kernel_rfl) ?_;simp only[yh,yj,yi,yl]
    repeat (go_big_quiet_step ((first|exact G8.o _|exact D0.o _)))
    refine wpQuiet_nil ?_;intro dq;have f:=yK (C.o.tm dq.2);clear E7 a5 a6 a7 G8 D0;revert f;generalize dq.1=w5;intro f;go_wp2_with fail
    go_roundw
    case rel=>exact⟨i+1,by omega,by go_num,yK ⟨f.o,λ j hj=>by
     rcases (by omega:j<i\/j=i)with h|rfl
     ·exact HR.o.2 j h
     exact F0.o⟩⟩
    case measure=>simp only[intOf];omega
   | true =>
    have G0:¬ ((z0,z1,z2):W3)=(0,0,0):=λ h=>by have:=Q2.o.1 h;rw[hp]at this;cases this
    have E7:∀ d:SubW w4,(Op.equalIn 10000 105 (.agg #[.int .u64 z0,.int .u64 z1,.int .u64 z2]) (.agg #[.int .u64 0,.int .u64 0,.int .u64 0])).run Tryz.prog d.1=.ok false d.1:=λ d=>(qbv (z0,z1,z2) (0,0,0) d.1).trans (by rw[yv G0]);have F0:Hid (zaO (withB t js) T i=true):=yK (C5.o.trans hp);clear G0 hp;refine zg 11 (by kernel_rfl) (by kernel_rfl) ?_;simp only[yh,yj,yi,yl]
    repeat (go_big_quiet_step ((first|exact G8.o _|exact D0.o _)))
    refine wpQuiet_nil ?_;intro dq;have B0:=C.o.tm dq.2;have hA:=(C1.o dq.1 B0).2.trans H8.o;have A3:=yK (C1.o dq.1 B0).1;clear E7 a5 a6 a7 G8 D0 B0;revert hA A3;generalize dq.1=w5;intro hA A3;go_upto_region 51 with fail;obtain⟨A,N,K,F,B⟩:=zbz #[.slice qp T.length qc,.int .u64 st,.int .u64 b0,.int .u64 b1,.int .u64 b2,.int .u64 j0,.int .u64 j1,.int .u64 j2,.int .i64 (mn 0),.int .i64 (mn 1),.int .i64 (mn 2),.int .i64 (mn 3),.int .i64 (mn 4),.int .i64 (mn 5),.int .i64 (mn 6),.int .i64 (mn 7)] rfl (by simp[Value.oneCell']);rw[N]at hA;refine qaz (n:=7) (i:=i) A3.o hA K F B (by omega) (by kernel_rfl) rfl rfl rfl rfl rfl rfl rfl rfl rfl rfl rfl rfl rfl rfl rfl rfl (Yj (by kernel_rfl)) (Yj (by kernel_rfl)) (Yj (by kernel_rfl)) (by decide) (λ _=>by kernel_rfl) (λ _=>by kernel_rfl) (λ _=>by kernel_rfl) ?_;intro cT w10 V H X G I;clear hA;go_wp2_with fail;refine Yc (zO rfl underlying135 rfl underlying108 rfl _ w10 w.heap.size (w.heap.size+1) cT A (0,0) (0,0) G H I K (by kernel_rfl) (by kernel_rfl)) rfl ?_;rw[<- C3.o];exact⟨7,i,A,by rw[V];rfl,(cov7 (t:=withB t js) E3.o (by rw[zo,J.o];exact D4.o) (by rw[zo,J.o];exact F5.o) N6.o hlt2 (by rw[zo,J.o];exact F0.o) (by rw[zo,J.o];exact HR.o.2)).symm,X,F,B,λ h=>absurd h (by decide)⟩
  obtain rfl:i=js.length:=by omega
  have S8:=yK HR.o.2;have A2:=yK (C1.o wr HR.o.1).1;have D:=(C1.o wr HR.o.1).2.trans H8.o;have A6:=yK (qf O9.o HR.o.1);clear HR C1 O9 H8;go_wp2_with fail;have hF:=A2.o.fbox;have hR:=A2.o.rbox;have I4:sb≠w.heap.size:=by omega
  have D3:w.heap.size+1≠w.heap.size:=by omega
  obtain⟨A,N⟩:∃ A:Array Value,#[.slice qp T.length qc,.int .u64 st,.int .u64 b0,.int .u64 b1,.int .u64 b2,.int .u64 j0,.int .u64 j1,.int .u64 j2,.int .i64 (mn 0),.int .i64 (mn 1),.int .i64 (mn 2),.int .i64 (mn 3),.int .i64 (mn 4),.int .i64 (mn 5),.int .i64 (mn 6),.int .i64 (mn 7)]=A:=⟨_,rfl⟩;rw[N]at D;have K:(Tryz.prog.info? 108).map (·.size)=some A.size:=by rw[<- N];exact sizeS
  have B:A.all (·.oneCell')=true:=by rw[<- N];simp[Value.oneCell']
  have H:(Tryz.prog.info? 135).map (·.size)=some (#[.int .i64 0,.int .i64 0]:Array Value).size:=by kernel_rfl
  have V7:=(setRow_other wr w.heap.size (w.heap.size+1) #[.int .i64 0,.int .i64 0] D3).trans hR;have V5:=(setRow_other wr w.heap.size sb #[.int .i64 0,.int .i64 0] I4).trans D;have L3:=yK N;clear N;have L0:∃ c,Tryz.prog.built 135 []=some c/\c=#[.int .i64 0,.int .i64 0]:=⟨_,rfl,rfl⟩;obtain⟨cT,L0,V⟩:=L0;rw[<- V]at hF H;refine ze3 (T:=135) (U:=108) (cT:=cT) (cU:=A) (bT:=w.heap.size) (bU:=w.heap.size+1) (bX:=sb) (by kernel_rfl) (by kernel_rfl) rfl rfl rfl rfl rfl rfl rfl rfl rfl rfl rfl rfl L0 (Yj (by kernel_rfl)) (Yj (by kernel_rfl)) (by decide) (by kernel_rfl) (by kernel_rfl) (by kernel_rfl) D hF hR I4 D3 underlying108 rfl H K rfl (by rw[<- L3.o];rfl) (by rw[V];simp[Value.oneCell']) B ?_;have X:Below w.heap.size w (((wr.drewN 1).setRow w.heap.size cT).setRow (w.heap.size+1) A):=zh (zh (A2.o.below.trans (below_drewN _ wr 1)) (ye _) _) (YF _) _;have J5:RP.Own (((wr.drewN 1).setRow w.heap.size cT).setRow (w.heap.size+1) A) (sb+1) (.slice qp T.length qc) (T.map (hpT t.ground L)):=qj (qj (qf A6.o (below_drewN _ wr 1)) λ kk e=>setRow_other _ _ _ _ (by have:=(qg A6.o e).1;omega)) λ kk e=>setRow_other _ _ _ _ (by have:=(qg A6.o e).1;omega);have G:(((wr.drewN 1).setRow w.heap.size cT).setRow (w.heap.size+1) A).heap[w.heap.size]?=some (.cells cT 135 (0,0)):=(setRow_other ((wr.drewN 1).setRow w.heap.size cT) (w.heap.size+1) w.heap.size A D3.symm).trans (setRow_heap (wr.drewN 1) w.heap.size _ cT _ _ hF);have I:(((wr.drewN 1).setRow w.heap.size cT).setRow (w.heap.size+1) A).heap[w.heap.size+1]?=some (.cells A 108 (0,0)):=setRow_heap ((wr.drewN 1).setRow w.heap.size cT) (w.heap.size+1) _ A _ _ ((setRow_other (wr.drewN 1) w.heap.size (w.heap.size+1) cT D3).trans hR);revert X J5 G I;generalize ((wr.drewN 1).setRow w.heap.size cT).setRow (w.heap.size+1) A=w10;intro X J5 G I;go_wp2_with fail;refine Yc (zO rfl underlying135 rfl underlying108 rfl _ w10 w.heap.size (w.heap.size+1) cT A (0,0) (0,0) G H I K (by kernel_rfl) (by kernel_rfl)) rfl ?_;rw[<- C3.o];exact⟨0,0,A,by rw[V];rfl,(cov0 (t:=withB t js) E3.o (by rw[zo,J.o];exact D4.o) (by rw[zo,J.o];exact F5.o) N6.o (by rw[zo,J.o];exact S8.o)).symm,X,(by rw[<- L3.o];rfl),B,λ _=>⟨⟨qp,T.length,qc,st,(b0,b1,b2),(j0,j1,j2),mn⟩,by rw[<- L3.o];rfl,by rw[J.o];exact⟨D1.o.set,D1.o.bord,D1.o.joint,D1.o.many⟩,by rw[J.o];exact qU J5 (by omega)⟩⟩
end Go.Proofs.YtiinlplgloaanaaGreatDoor
