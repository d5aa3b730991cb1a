/- Chapter 7 in the heap: covers, of any bricks: the first rule that they break, and the state in which all are put. -/
import Derived.Test.YtiinlplgloaanaaGreatDoorZzLayerTouches41
set_option linter.all false
set_option maxRecDepth 100000
set_option maxHeartbeats 16000000
namespace Go.Proofs.YtiinlplgloaanaaGreatDoor
open Go.Proofs.Tryz Go.RowKit
attribute [local go_sem] Oper.semAt_some
structure CgI (t:Tk) (js:List E) (L:List E) (w:World) (bb:Nat) (bv:BV) (l:List Ld) (v:Value) (W:World):Prop where
 fbox:W.heap[w.heap.size]?=some (.cells #[.int .i64 0,.int .i64 0] 135 (0,0))
 rbox:W.heap[w.heap.size+1]?=some (.cells (hsVals zeroS).toArray 108 (0,0))
 bd:BdAt W bb bv t L (pcsT t L) (belT t L)
 arg:RL.Has W v l
 tb:TbAt W
 bel:RE.Has W bv.b js
 below:Bw w W
theorem CgI.keep {t:Tk} {js:List E} {L:List E} {w:World} {bb:Nat} {bv:BV} {l:List Ld} {v:Value} {W W':World} (h:CgI t js L w bb bv l v W) (e:Bw W W'):CgI t js L w bb bv l v W' :=
 ⟨(e.block _ (ya.1 h.fbox).1).trans h.fbox,(e.block _ (ya.1 h.rbox).1).trans h.rbox,h.bd.keep e,h.arg.below e,h.tb.below e,h.bel.below e,h.below.tm e⟩
theorem bZ (cs:Array Value) (h:cs.size=16) (h1:cs.all (·.oneCell')=true):∃ c,cs=c/\(Tryz.prog.info? 108).map (·.size)=some c.size/\(hsVals zeroS).toArray.size=c.size/\c.all (·.oneCell')=true:=⟨cs,rfl,by rw[h];exact sizeS,h.symm,h1⟩
theorem bQ {id:Nat} {Q:Exit->Act->World->Prop} {a:Act} {t:Tk} {js:List E} {L:List E} {w:World} {bb:Nat} {bv:BV} {l:List Ld} {va:Value} {W:World} {o0 o1 o2 o3 o4:Oper} {dm d0 d1:Nat} {x y p q:Operand} {cU:Array Value} {n i:Int} {sb:Nat} (hcg:CgI t js L w bb bv l va W)
  (hA:W.heap[sb]?=some (.cells cU 108 (0,0))) (hsz:(Tryz.prog.info? 108).map (·.size)=some cU.size) (hosz:(hsVals zeroS).toArray.size=cU.size) (hone:cU.all (·.oneCell')=true) (hsb:w.heap.size+1<sb)
  (hB:gB #[o0,o1,o2,o3,o4] [3,4] [0,0,1,0,0]=true)
  (e0:o0.op=.move y) (g0:o0.guard=none) (t0:o0.dst=some dm)
  (e1:o1.op=.build 135 #[(0,.const (.int .i64 n)),(1,.tmp dm)]) (g1:o1.guard=none) (t1:o1.dst=some d0)
  (e2:o2.op=.load 108 x) (g2:o2.guard=none) (t2:o2.dst=some d1)
  (e3:o3.op=.store 135 p (.tmp d0)) (g3:o3.guard=none) (t3:o3.dst=none)
  (e4:o4.op=.store 108 q (.tmp d1)) (g4:o4.guard=none) (t4:o4.dst=none)
  (hy:a.eval y=.int .i64 i) (hdm:dm<a.tmps.size) (hd0:d0<a.tmps.size) (hd1:d1<a.tmps.size) (hne:d1≠d0)
  (hx:∀ cT,((a.put (some dm) (.int .i64 i)).put (some d0) (.agg cT)).eval x=.pointer (some ⟨sb,0,none⟩))
  (hp:∀ cT,(((a.put (some dm) (.int .i64 i)).put (some d0) (.agg cT)).put (some d1) (.agg cU)).eval p=.pointer (some ⟨w.heap.size,0,none⟩))
  (hq:∀ cT,(((a.put (some dm) (.int .i64 i)).put (some d0) (.agg cT)).put (some d1) (.agg cU)).eval q=.pointer (some ⟨w.heap.size+1,0,none⟩))
  (h:∀ (cT:Array Value) (w10:World),cT=#[.int .i64 n,.int .i64 i]->(Tryz.prog.info? 135).map (·.size)=some cT.size->Bw w w10->w10.heap[w.heap.size]?=some (.cells cT 135 (0,0))->w10.heap[w.heap.size+1]?=some (.cells cU 108 (0,0))->Q .normal (((a.put (some dm) (.int .i64 i)).put (some d0) (.agg cT)).put (some d1) (.agg cU)) w10) :
  (Code.region id #[o0,o1,o2,o3,o4] true).wp Tryz.prog Q a W:=by
 have H:=hcg.fbox;have G:=hcg.rbox;have F:sb≠w.heap.size:=by omega
 have A:w.heap.size+1≠w.heap.size:=by omega
 have D:∃ c,Tryz.prog.built 135 [(0,.int .i64 n),(1,.int .i64 i)]=some c/\c=#[.int .i64 n,.int .i64 i]:=⟨_,rfl,rfl⟩;obtain⟨cT,D,B⟩:=D;have C:(Tryz.prog.info? 135).map (·.size)=some cT.size:=by rw[B];kernel_rfl
 refine tB (T:=135) (U:=108) (cT:=cT) (cU:=cU) (v:=.int .i64 i) (bT:=w.heap.size) (bU:=w.heap.size+1) (bX:=sb) (by kernel_rfl) hB e0 g0 t0 e1 g1 t1 e2 g2 t2 e3 g3 t3 e4 g4 t4 hy D hdm hd0 hd1 hne (hx cT) (hp cT) (hq cT) hA H G F A underlying108 rfl C hsz (by rw[B];rfl) hosz (by rw[B];simp[Value.oneCell']) hone ?_;refine h cT _ B C ?_ ?_ ?_
 ·exact zi (zi (hcg.below.trans (below_drewN _ W 1)) (ye _) _) (YE _) _
 ·exact(setRow_other ((W.drewN 1).setRow w.heap.size cT) (w.heap.size+1) w.heap.size cU A.symm).trans (setRow_heap (W.drewN 1) w.heap.size _ cT _ _ H)
 ·exact setRow_heap ((W.drewN 1).setRow w.heap.size cT) (w.heap.size+1) _ cU _ _ ((setRow_other (W.drewN 1) w.heap.size (w.heap.size+1) cT A).trans G)
def CovPost (t:Tk) (js:List E) (L:List E) (l:List Ld) (w:World) (e:Ending) (w':World):Prop:=∃ (n i:Nat) (cS:Array Value),e=.returned (.tuple #[.agg #[.int .i64 n,.int .i64 i],.agg cS])/\(n,i)=coversT (withB t js) l/\Bw w w'/\(hsVals zeroS).toArray.size=cS.size/\cS.all (·.oneCell')=true /\
 (n=0->∃ S:HS,cS=(hsVals S).toArray/\StT t.ground L (parts t l) S/\RP.Own w' w.heap.size S.laid ((parts t l).map (hpT t.ground L)))
theorem zE {t:Tk} {js L:List E} (ok:TkOk t L) (w:World) (bb:Nat) (bv:BV) (hb:BdAt w bb bv t L (pcsT t L) (belT t L)) (htb:TbAt w) (l:List Ld) (h16:l.length<=16) (v:Value) (hv:RL.Has w v l) (hjs:RE.Has w bv.b js) (hfx:t.fixed.length<=16) (hjl:js.length<=1000) (hLn:L.Nodup) (hLo:∀ e∈L,okE e) (hjo:∀ e∈js,okE e) :
  Calls Tryz.prog 59 #[.pointer (some ⟨bb,0,none⟩),v] w (CovPost t js L l w):=by
 have R5:∀ l∈pcsT t L,l.length<=1000000:=λ l hl=>by
  obtain⟨x,hx,rfl⟩:=yP.1 hl;obtain⟨⟨s,k⟩,_,rfl⟩:=yP.1 hx;rw[yB];have:=hU s t.ground;show (piecesK t.ground k s).length<=_;unfold piecesK;rw[yB];omega
 have G4:(pcsT t L).length=t.kinds.length:=by unfold pcsT;rw[yB,qX]
 obtain⟨vp,vc,rfl⟩:=hv.slice;have F3:=yd w (.cells #[.int .i64 0,.int .i64 0] 135);have P3:(w.alloc (.cells #[.int .i64 0,.int .i64 0] 135)).heap.size=w.heap.size+1:=yp _ _;have J4:Below w.heap.size w (w.alloc (.cells #[.int .i64 0,.int .i64 0] 135)):=(yf _ w).alloc (ye _) _;have B8:Below w.heap.size w ((w.alloc (.cells #[.int .i64 0,.int .i64 0] 135)).alloc (.cells (hsVals zeroS).toArray 108)):=J4.alloc (by omega) _;have L7:=yd (w.alloc (.cells #[.int .i64 0,.int .i64 0] 135)) (.cells (hsVals zeroS).toArray 108);rw[P3]at L7;have F7:CgI t js L w bb bv l (.slice vp l.length vc) ((w.alloc (.cells #[.int .i64 0,.int .i64 0] 135)).alloc (.cells (hsVals zeroS).toArray 108)):=⟨heapO _ F3,L7,hb.keep B8,hv.below B8,htb.below B8,hjs.below B8,B8⟩;have S9:=yK R5;clear R5;have T4:=yK G4;clear G4;have P7:=yK hLn;clear hLn;have V7:=yK hLo;clear hLo;have T5:=yK hjo;clear hjo;clear F3 J4 B8 L7 P3 hb hv htb hjs;generalize P9:CovPost t js L l w=Po;have C8:=yK P9;clear P9;go_enter func59,ntmps59;go_upto_region 1 with fail;change Code.wp _ _ _ _ ((w.alloc (.cells #[.int .i64 0,.int .i64 0] 135)).alloc (.cells (hsVals zeroS).toArray 108));revert F7;generalize (w.alloc (.cells #[.int .i64 0,.int .i64 0] 135)).alloc (.cells (hsVals zeroS).toArray 108)=w1;intro F7;go_upto_region 2 with fail;change Code.wp _ _ _ _ (w1.alloc (.cells (hsVals zeroS).toArray 108));have hS:=yd w1 (.cells (hsVals zeroS).toArray 108);have H6:Below w1.heap.size w1 (w1.alloc (.cells (hsVals zeroS).toArray 108)):=(yf _ w1).alloc (ye _) _;have Q7:w.heap.size+1<w1.heap.size:=(ya.1 F7.rbox).1;have H9:(w1.alloc (.cells (hsVals zeroS).toArray 108)).heap.size=w1.heap.size+1:=yp _ _;have C0:Hid (∀ W,Below w1.heap.size w1 W->CgI t js L w bb bv l (.slice vp l.length vc) W):=yK λ W h=>F7.keep h;clear F7;revert hS H6 H9;generalize w1.alloc (.cells (hsVals zeroS).toArray 108)=w2;revert C0 Q7;generalize N7:w1.heap.size=sb;intro Q7 C0 hS H6 H9;have G8:=yK N7;clear N7;have HS:=yK hS;clear hS;have S7:=yK H6;clear H6;have W9:=yK H9;clear H9;go_wp2_with fail;go_loopw [7,27] (λ u z wr=>∃ k:Nat,k<=l.length/\z=.int .i64 k/\Hid (RP.Own wr (sb+1) u ((parts t (l.take k)).map (hpT t.ground L))/\Below sb w1 wr/\wr.heap[sb]?=some (.cells (hsVals zeroS).toArray 108 (0,0))/\(parts t (l.take k)).length=k/\∀ j,j<k->qaT (withB t js) l j=false)) (λ _ z _=>l.length-(intOf z).toNat)
 case atStart=>exact⟨0,YB _,rfl,yK ⟨RP.own_nil _ _,S7.o,HS.o,rfl,λ j hj=>kV hj (by omega)⟩⟩
 case round =>
  obtain⟨k,hk,rfl,y⟩:=hrel;by_cases hlt:k<l.length
  case pos =>
   obtain⟨x,hx⟩:∃ x,l[k]?=some x:=⟨_,yb hlt⟩;obtain⟨xa,rfl,f⟩:=(C0.o wr y.o.2.1).arg.at_ (by rintro e;rw[e]at hx;simp at hx);have A7:(Instr.loadAt 50 (.pointer (some (xa.add (k*5))))).run Tryz.prog wr=.ok (.agg (ldVals x).toArray) wr:=zl (P:=Tryz.prog) (R:=RL) underlying50 rfl sizeL f hx;have HX:=yK hx;clear f hx;have B7:(Tryz.prog.info? 50).map (·.size)=some (ldVals x).toArray.size:=sizeL;have C1:(ldVals x).toArray.all (·.oneCell')=true:=(by simp[ldVals,Value.oneCell']);go_upto_region 6 with(first
    | (refine qo rfl 50 _ rfl rfl A7 ?_)
    | (refine wpList_store_row rfl 50 _ _ rfl wr.heap.size rfl 50 _ (ldVals x).toArray rfl (yd wr _) B7 rfl C1 ?_;rw[World.setRow_alloc_new]))
   have B6:=yd wr (.cells (ldVals x).toArray 50);have H7:Below wr.heap.size wr (wr.alloc (.cells (ldVals x).toArray 50)):=(yf _ wr).alloc (ye _) _;clear A7;revert B6 H7;generalize wr.alloc (.cells (ldVals x).toArray 50)=w3;intro B6 H7;have V:=yK H7;clear H7;have G3:sb<=wr.heap.size:=(by have:=y.o.2.1.size;have:=G8.o;omega);have J8:=C0.o w3 (y.o.2.1.trans (V.o.mono G3));have N2:=yK (nT w3 bb _ J8.bd T4.o ok.k8 S9.o x);clear J8;go_wp2_with (refine Ya rfl 50 _ rfl wr.heap.size rfl 50 (ldVals x).toArray (0,0) _ B6 underlying50 rfl B7 ?_);refine N2.o.mono ?_;rintro e w4 ⟨rfl,D5⟩;rw[pS]
   cases hf:findT t x with
   | none =>
    simp only[Option.map_none,Option.getD_none,Option.isSome_none];have E8:=yK hf;clear hf;have D:=yK (V.o.tm D5);clear N2 B6 D5 V;have A4:(Tryz.prog.info? 152).map (·.size)=some (hpVals zeroP).toArray.size:=sizeP;have A2:(hpVals zeroP).toArray.all (·.oneCell')=true:=(by simp[hpVals,zeroP,Value.oneCell']);have g:=(D.o.block sb (ya.1 y.o.2.2.1).1).trans y.o.2.2.1;have Q8:=C0.o w4 (y.o.2.1.trans (D.o.mono G3));go_upto_region 8 with(first
     | (refine wpList_store_row rfl 152 _ _ rfl w4.heap.size rfl 152 _ (hpVals zeroP).toArray rfl (yd w4 _) A4 rfl A2 ?_;rw[World.setRow_alloc_new]))
    have D9:=Q8.keep ((yf _ w4).alloc (ye _) (.cells (hpVals zeroP).toArray 152));have F:=heapO (.cells (hpVals zeroP).toArray 152) g;clear Q8 g A4 A2;revert D9 F;generalize w4.alloc (.cells (hpVals zeroP).toArray 152)=w5;intro D9 F;have A9:=yK D9;clear D9;obtain⟨B,X,O,G,C⟩:=bZ (hsVals zeroS).toArray rfl (by simp[hsVals,zeroS,Value.oneCell']);have g:=F;rw[X]at g;clear F X;refine bQ (n:=1) (i:=k) A9.o g O G C (by omega) (by kernel_rfl) rfl rfl rfl rfl rfl rfl rfl rfl rfl rfl rfl rfl rfl rfl rfl rfl (Yi (by kernel_rfl)) (Yi (by kernel_rfl)) (Yi (by kernel_rfl)) (by decide) (λ _=>by kernel_rfl) (λ _=>by kernel_rfl) (λ _=>by kernel_rfl) ?_;intro cT w10 A1 H A0 I J;clear g;go_wp2_with fail;refine Yb (qR rfl underlying135 rfl underlying108 rfl _ w10 w.heap.size (w.heap.size+1) cT B (0,0) (0,0) I H J O (by kernel_rfl) (by kernel_rfl)) rfl ?_;rw[<- C8.o];exact⟨1,k,B,by rw[A1];rfl,(cov1 (t:=withB t js) hlt (by rw[lq HX.o,nE,E8.o];rfl) y.o.2.2.2.2).symm,A0,G,C,λ h=>kV h (by decide)⟩
   | some p =>
    simp only[kr,Yv,Option.isSome_some];have E8:=yK hf;clear hf;have D:=yK (V.o.tm D5);clear N2 B6 D5 V;have A4:(Tryz.prog.info? 152).map (·.size)=some (hpVals (hpT t.ground L p)).toArray.size:=sizeP;have A2:(hpVals (hpT t.ground L p)).toArray.all (·.oneCell')=true:=(by simp[hpVals,Value.oneCell']);go_upto_region 9 with(first
     | (refine wpList_store_row rfl 152 _ _ rfl w4.heap.size rfl 152 _ (hpVals (hpT t.ground L p)).toArray rfl (yd w4 _) A4 rfl A2 ?_;rw[World.setRow_alloc_new]))
    have C6:=yd w4 (.cells (hpVals (hpT t.ground L p)).toArray 152);have B5:Below wr.heap.size wr (w4.alloc (.cells (hpVals (hpT t.ground L p)).toArray 152)):=D.o.alloc D.o.size _;revert C6 B5;generalize w4.alloc (.cells (hpVals (hpT t.ground L p)).toArray 152)=w5;generalize w4.heap.size=pb;intro C6 B5;have M7:Below wr.heap.size wr (w5.alloc (.cells (hpVals (hpT t.ground L p)).toArray 152)):=B5.alloc B5.size _;obtain⟨ls,C3⟩:∃ ls,(parts t (l.take k)).map (hpT t.ground L)=ls:=⟨_,rfl⟩;have S1:ls.length=k:=(by rw[<- C3,yB];exact y.o.2.2.2.1);have C2:=yK (qf y.o.1 M7);rw[C3]at C2;have T3:=yK C3;clear C3;have C5:=yK M7;clear M7;have V9:sb+1<=w5.heap.size:=(by have:=(ya.1 y.o.2.2.1).1;have:=B5.size;omega);have S5:=yK (zD (yd w5 (.cells (hpVals (hpT t.ground L p)).toArray 152)));obtain⟨iI,R1,N8,H5,S8⟩:=info_parts infoPc;have V8:Hid (ls.length+1<=maxLen):=yK (by simp only[maxLen];omega);have S3:Hid ((ls.length+1)*72<=140737488355328):=yK (by omega);clear S1 B5;go_wp2_with (first
     | (refine Ya rfl 152 _ rfl pb rfl 152 (hpVals (hpT t.ground L p)).toArray (0,0) _ C6 underlying152 rfl A4 ?_)
     | (refine di rfl _ rfl rfl underlying102 R1 N8 (by rw[H5];decide) (by rw[H5];decide) (cells:=(hpVals (hpT t.ground L p)).toArray) (by rw[H5];exact iU _) ?_)
     | (at_builtin;refine wpList_append_own_at (P:=Tryz.prog) _ rfl _ _ 102 rfl (sb+1) 152 iI _ 9 72 underlying102 R1 N8 H5 S8 rfl (by decide) u7 ls.length (RP.cells ls) rfl C2.o ⟨w5.heap.size,0,none⟩ 1 1 (hpVals (hpT t.ground L p)) rfl rfl S5.o (RP.one _) V8.o S3.o (by rw[yp];omega) ?_;intro v' w7 hown' hgrow _ f;obtain⟨p',c',rfl⟩:=zf hown'))
    have R8:Below sb w1 w7:=(y.o.2.1.trans (C5.o.mono G3)).grown hgrow (by rw[yp];omega) λ b e=>by have:=(qg C2.o e).1;omega
    refine⟨⟨k+1,by omega,by go_num,yK ⟨?_,R8,?_,?_,?_⟩⟩,by simp only[intOf];omega⟩
    ·rw[mG HX.o E8.o,Yl,T3.o];exact RP.own_snoc hown'
    ·refine(hgrow.block sb (by rw[yp];omega) λ e=>?_).trans ((C5.o.block sb (ya.1 y.o.2.2.1).1).trans y.o.2.2.1);have:=(qg C2.o e.symm).1;omega
    ·rw[mG HX.o E8.o,yL,y.o.2.2.2.1];rfl
    intro j hj;rcases (by omega:j<k\/j=k)with h|rfl
    ·exact y.o.2.2.2.2 j h
    rw[lq HX.o,nE,E8.o];rfl
  obtain rfl:k=l.length:=by omega
  have hR:=y.o;rw[Yc]at hR;obtain⟨T,L6⟩:∃ T,parts t l=T:=⟨_,rfl⟩;have L1:=parts_all (t:=t) (l:=l) hR.2.2.2.2;rw[L6]at hR L1;obtain⟨Q9,R0,O2,O4,N5⟩:=hR;have K:=yK L6;clear L6;have M5:=yK L1.2;clear L1;have M0:=yK N5;clear N5;have B4:Hid (RP.Own wr (sb+1) u7 (T.map (hpT t.ground L))/\Below sb w1 wr/\wr.heap[sb]?=some (.cells (hsVals zeroS).toArray 108 (0,0))):=yK ⟨Q9,R0,O2⟩;have W0:T.length<=16:=by omega
  have W5:=yK O4;clear O4;clear Q9 R0 O2 y hlt hk;obtain⟨wA,rfl⟩:∃ wA,wA=wr:=⟨_,rfl⟩;obtain⟨qp,qc,rfl⟩:=zf B4.o.1;rw[yB]at B4 ⊢;have V1:Hid (∀ p∈T,∃ q∈t.ground,q∈p.qs):=yK λ p hp=>by
   have hm:=M5.o p hp;obtain⟨q,hq⟩:=YF _ (ok.ne p hm);exact⟨q,ok.inG p hm q hq,hq⟩
  have B9:Hid (∀ W,Below wA.heap.size wA W->RP.Own W (sb+1) (.slice qp T.length qc) (T.map (hpT t.ground L))):=yK λ W h=>qf B4.o.1 h;have E9:sb<=wA.heap.size:=by have:=B4.o.2.1.size;have:=G8.o;omega
  go_wp2_with fail;go_loopw [50] (λ z wq=>∃ i:Nat,i<=T.length/\z=.int .i64 i/\Hid (Below wA.heap.size wA wq/\∀ j,j<i->rule2 (withB t js) T j=false)) (λ z _=>T.length-(intOf z).toNat)
  case atStart=>exact⟨0,YB _,rfl,yK ⟨yf _ _,λ j hj=>kV hj (by omega)⟩⟩
  obtain⟨i,hi,rfl,L3⟩:=hrel;have HQ:=yK L3.o.1;have I8:=yK L3.o.2;clear L3;by_cases hlt:i<T.length
  case pos =>
   obtain⟨p,hp⟩:∃ p,T[i]?=some p:=⟨_,yb hlt⟩;have P2:=B9.o wr HQ.o;obtain⟨qa,rfl,f⟩:=(REnc.Own.has P2).at_ (by intro e;have h0:=YA List.length e;rw[yB]at h0;simp at h0;rw[h0]at hlt;simp at hlt);have A7:(Instr.loadAt 152 (.pointer (some (qa.add (i*9))))).run Tryz.prog wr=.ok (.agg (hpVals (hpT t.ground L p)).toArray) wr:=zl (P:=Tryz.prog) (R:=RP) underlying152 rfl sizeP f (by rw[yQ,hp];rfl);have A4:(Tryz.prog.info? 152).map (·.size)=some (hpVals (hpT t.ground L p)).toArray.size:=sizeP;have A2:(hpVals (hpT t.ground L p)).toArray.all (·.oneCell')=true:=(by simp[hpVals,Value.oneCell']);clear P2 f;go_upto_region 14 with(first
    | (refine qo rfl 152 _ rfl rfl A7 ?_)
    | (refine wpList_store_row rfl 152 _ _ rfl wr.heap.size rfl 152 _ (hpVals (hpT t.ground L p)).toArray rfl (yd wr _) A4 rfl A2 ?_;rw[World.setRow_alloc_new]))
   simp only[Act.put];have C6:=yd wr (.cells (hpVals (hpT t.ground L p)).toArray 152);have A5:Below wA.heap.size wA (wr.alloc (.cells (hpVals (hpT t.ground L p)).toArray 152)):=HQ.o.alloc HQ.o.size _;clear A7;revert C6 A5;generalize wr.alloc (.cells (hpVals (hpT t.ground L p)).toArray 152)=w3;generalize wr.heap.size=pb;intro C6 A5;have V:=yK A5;clear A5
   cases i with
   | zero =>
    clear C6;refine zg 13 (by kernel_rfl) (by kernel_rfl) ?_;simp only[yh,yj,yi,yl]
    repeat(go_big_quiet_step (fail))
    refine wpQuiet_nil ?_;intro dq;have D:=yK (V.o.tm dq.2);revert D;generalize dq.1=w4;intro D;go_wp2_with fail
    go_roundw
    case rel=>exact⟨1,by omega,by go_num,yK ⟨D.o,λ j hj=>by (obtain rfl:j=0:=by omega);exact wg _ _⟩⟩
    case measure=>simp only[intOf];omega
   | succ j =>
    obtain⟨r,hr⟩:∃ r,T[j]?=some r:=⟨_,yb (by omega)⟩;have P5:=yK (AM (t:=withB t js) hr hp);have d1:∀ d:SubW w3,(Instr.loadAt 152 (.pointer (some ⟨pb,0,none⟩))).run Tryz.prog d.1=.ok (.agg (hpVals (hpT t.ground L p)).toArray) d.1:=λ d=>by
     have:=run_loadVar_row (P:=Tryz.prog) d.1 pb 152 152 (hpVals (hpT t.ground L p)).toArray (0,0) _ (d.block C6) underlying152 rfl A4;simp only[Instr.loadAt,Instr.sureAddr,yG,yH,yz,this]
    have d2:∀ d:SubW w3,(Instr.loadAt 152 (.pointer (some (qa.add (j*9))))).run Tryz.prog d.1=.ok (.agg (hpVals (hpT t.ground L r)).toArray) d.1:=λ d=>by
     obtain⟨X0,e,f⟩:=(REnc.Own.has (B9.o d.1 (V.o.tm d.2))).at_ (by intro e;have h0:=YA List.length e;rw[yB]at h0;simp at h0;rw[h0]at hlt;simp at hlt)
     cases e
     exact zl (P:=Tryz.prog) (R:=RP) underlying152 rfl sizeP f (by rw[yQ,hr];rfl)
    have C3:∀ x∈T,∀ d:SubW w3,Calls Tryz.prog 94 #[.agg (hpVals (hpT t.ground L x)).toArray] d.1 λ e w'=>e=.returned (.int .i64 (leastP t.ground x))/\∃ d':SubW w3,w'=d'.1:=λ x hx d=>by
     have htb:=(C0.o d.1 (B4.o.2.1.trans ((V.o.tm d.2).mono E9))).tb;refine(fb (hpT t.ground L x) (aN ok.g64 _) d.1 htb).mono ?_;rintro e w' ⟨rfl,I1⟩;rw[dr ok.g64 (V1.o x hx)];exact⟨rfl,⟨w',d.2.tm I1.below⟩,rfl⟩
    have I5:=yK (C3 p (yg hp));have H8:=yK (C3 r (yg hr));clear C3 hp hr;have W8:(0:Int)<(j:Int)+1:=(by omega);have W1:(j:Int)<T.length:=(by omega);by_cases hc:leastP t.ground p<=leastP t.ground r
    case neg =>
     have F8:Hid (rule2 (withB t js) T (j+1)=false):=yK (by rw[P5.o];exact yv hc);have hd:decide ((leastP t.ground p:Int)<=(leastP t.ground r:Int))=false:=yv (by omega);have L2:¬ ((leastP t.ground p:Int)<=(leastP t.ground r:Int)):=(by omega);have F2:¬ (leastP t.ground p<=leastP t.ground r):=(by omega);refine zg 13 (by kernel_rfl) (by kernel_rfl) ?_;simp only[yh,yj,yi,yl]
     repeat(first|((first|(go_big_quiet_want;refine zx 152 _ rfl rfl (by rintro w ⟨d,rfl⟩;exact d1 d) ?_;simp only[Act.put,yr,yF,yE];go_big_quiet_on)|(go_big_quiet_want;refine zx 152 _ rfl rfl (by rintro w ⟨d,rfl⟩;exact d2 d) ?_;simp only[Act.put,yr,yF,yE];go_big_quiet_on)))|go_big_quiet_step ((first|exact I5.o _|exact H8.o _)))
     refine wpQuiet_nil ?_;intro dq;have D:=yK (V.o.tm dq.2);clear d1 d2 hd L2 F2 I5 H8 hc;revert D;generalize dq.1=w4;intro D;go_wp2_with fail
     go_roundw
     case rel=>exact⟨j+1+1,by omega,by go_num,yK ⟨D.o,λ m hm=>by
      rcases (by omega:m<j+1\/m=j+1)with h|rfl
      ·exact I8.o m h
      exact F8.o⟩⟩
     case measure=>simp only[intOf];omega
    have F8:Hid (rule2 (withB t js) T (j+1)=true):=yK (by rw[P5.o];exact yw hc);have hd:decide ((leastP t.ground p:Int)<=(leastP t.ground r:Int))=true:=yw (by omega);have L2:((leastP t.ground p:Int)<=(leastP t.ground r:Int)):=(by omega);have F2:(leastP t.ground p<=leastP t.ground r):=hc;refine zg 13 (by kernel_rfl) (by kernel_rfl) ?_;simp only[yh,yj,yi,yl]
    repeat(first|((first|(go_big_quiet_want;refine zx 152 _ rfl rfl (by rintro w ⟨d,rfl⟩;exact d1 d) ?_;simp only[Act.put,yr,yF,yE];go_big_quiet_on)|(go_big_quiet_want;refine zx 152 _ rfl rfl (by rintro w ⟨d,rfl⟩;exact d2 d) ?_;simp only[Act.put,yr,yF,yE];go_big_quiet_on)))|go_big_quiet_step ((first|exact I5.o _|exact H8.o _)))
    refine wpQuiet_nil ?_;intro dq;have L8:=V.o.tm dq.2;have F:dq.1.heap[sb]?=some (.cells (hsVals zeroS).toArray 108 (0,0)):=(L8.block sb (ya.1 B4.o.2.2).1).trans B4.o.2.2;have A9:=yK (C0.o dq.1 (B4.o.2.1.trans (L8.mono E9)));clear d1 d2 hd L2 F2 I5 H8 hc L8;revert F A9;generalize dq.1=w5;intro F A9;go_upto_region 15 with fail;obtain⟨B,X,O,G,C⟩:=bZ (hsVals zeroS).toArray rfl (by simp[hsVals,zeroS,Value.oneCell']);have g:=F;rw[X]at g;clear F X;refine bQ (n:=2) (i:=(j+1:Nat)) A9.o g O G C (by omega) (by kernel_rfl) rfl rfl rfl rfl rfl rfl rfl rfl rfl rfl rfl rfl rfl rfl rfl rfl (Yi (by kernel_rfl)) (Yi (by kernel_rfl)) (Yi (by kernel_rfl)) (by decide) (λ _=>by kernel_rfl) (λ _=>by kernel_rfl) (λ _=>by kernel_rfl) ?_;intro cT w10 A1 H A0 I J;clear g;go_wp2_with fail;refine Yb (qR rfl underlying135 rfl underlying108 rfl _ w10 w.heap.size (w.heap.size+1) cT B (0,0) (0,0) I H J O (by kernel_rfl) (by kernel_rfl)) rfl ?_;rw[<- C8.o];exact⟨2,j+1,B,by rw[A1];rfl,(cov2 (t:=withB t js) M0.o (by rw[zo,K.o];exact hlt) (by rw[zo,K.o];exact F8.o) (by rw[zo,K.o];exact I8.o)).symm,A0,G,C,λ h=>kV h (by decide)⟩
  obtain rfl:i=T.length:=by omega
  have J3:=yK I8.o;clear I8;have G9:=yK HQ.o;clear HQ;go_wp2_with fail;have Q0:Below sb w1 wr:=B4.o.2.1.trans (G9.o.mono E9);have N9:RP.Own wr (sb+1) (.slice qp T.length qc) (T.map (hpT t.ground L)):=B9.o wr G9.o;have F3:wr.heap[sb]?=some (.cells (hsVals (stC 0 0 0 0 0 0 0 λ _=>0)).toArray 108 (0,0)):=(G9.o.block sb (ya.1 B4.o.2.2).1).trans B4.o.2.2;have H0:=yK (YP Q0 (YP N9 F3));clear Q0 N9 F3 G9 B9;go_loopw [74] (λ z wq=>∃ (i st S N M j0 j1 j2:Nat) (A:Nat->Nat),i<=T.length/\z=.int .i64 i/\Hid (Below sb w1 wq/\RP.Own wq (sb+1) (.slice qp T.length qc) (T.map (hpT t.ground L))/\wq.heap[sb]?=some (.cells (hsVals (stC st S N M j0 j1 j2 A)).toArray 108 (0,0)) /\
   StT t.ground L (T.take i) (stC st S N M j0 j1 j2 A)/\∀ j,j<i->zaM T j=false)) (λ z _=>T.length-(intOf z).toNat)
  case atStart=>exact⟨0,0,0,0,0,0,0,0,λ _=>0,YB _,rfl,yK ⟨H0.o.1,H0.o.2.1,H0.o.2.2,nj _ _,λ j hj=>kV hj (by omega)⟩⟩
  obtain⟨i,st,S,N,M,j0,j1,j2,A,hi,rfl,HQ⟩:=hrel;by_cases hlt:i<T.length
  case pos =>
   obtain⟨p,hp⟩:∃ p,T[i]?=some p:=⟨_,yb hlt⟩;obtain⟨qa,rfl,f⟩:=(REnc.Own.has HQ.o.2.1).at_ (by intro e;have h0:=YA List.length e;rw[yB]at h0;simp at h0;rw[h0]at hlt;simp at hlt);have A7:(Instr.loadAt 152 (.pointer (some (qa.add (i*9))))).run Tryz.prog wr=.ok (.agg (hpVals (hpT t.ground L p)).toArray) wr:=zl (P:=Tryz.prog) (R:=RP) underlying152 rfl sizeP f (by rw[yQ,hp];rfl);have F6:=M5.o p (yg hp);obtain⟨k,s0,pl,Q2,T2,P1⟩:=aU F6;have hk:p.ld.kind=k:=(by rw[P1];rfl);have W7:k<8:=yO (yc.1 Q2).1 ok.k8;have G1:Hid (st &&& (hpT t.ground L p).set=0↔zaM T i=false):=yK (by
    rw[Ay hp,show st=setG (covT (T.take i)) t.ground from HQ.o.2.2.2.1.set];exact wZ (ok.inG p F6))
   have B0:st<2 ^ 64:=(by rw[show st=setG (covT (T.take i)) t.ground from HQ.o.2.2.2.1.set];exact aN ok.g64 _);have Q4:okW (S,N,M):=(by rw[show (S,N,M)=wordsE (bordT (T.take i)) L from HQ.o.2.2.2.1.bord];exact zX _ _);have V5:okW (j0,j1,j2):=(by rw[show (j0,j1,j2)=wordsE (jointT (T.take i)) L from HQ.o.2.2.2.1.joint];exact zX _ _);have W4:A k<=64:=(by rw[show A k=manyT (T.take i) (k:Int)from HQ.o.2.2.2.1.many k];have:=od (T.take i) (k:Int);rw[Ye]at this;omega);have B3:(hpT t.ground L p).set<2 ^ 64:=aN ok.g64 _;have C7:okW (hpT t.ground L p).bord:=zX _ _;have J9:(hpT t.ground L p).ld.kind=k:=hk;have R6:=yK (zn hp);have T8:=yK hk;obtain⟨hh,L0⟩:∃ hh,hpT t.ground L p=hh:=⟨_,rfl⟩;have N0:=yK L0;rw[L0]at A7 G1 B3 C7 J9;obtain⟨⟨kk,hm,ht,hx,hy⟩,pst,q0,q1,q2⟩:=hh;simp only at G1 B3 C7 J9;subst J9;clear f hp hk F6 Q2 T2 P1 L0;have A4:(Tryz.prog.info? 152).map (·.size)=some (hpVals ⟨⟨k,hm,ht,hx,hy⟩,pst,(q0,q1,q2)⟩).toArray.size:=sizeP;have A2:(hpVals ⟨⟨k,hm,ht,hx,hy⟩,pst,(q0,q1,q2)⟩).toArray.all (·.oneCell')=true:=(by simp[hpVals,Value.oneCell']);go_upto_region 20 with(first
    | (refine qo rfl 152 _ rfl rfl A7 ?_)
    | (refine wpList_store_row rfl 152 _ _ rfl wr.heap.size rfl 152 _ (hpVals ⟨⟨k,hm,ht,hx,hy⟩,pst,(q0,q1,q2)⟩).toArray rfl (yd wr _) A4 rfl A2 ?_;rw[World.setRow_alloc_new]))
   simp only[Act.put];have hP:(wr.alloc (.cells (hpVals ⟨⟨k,hm,ht,hx,hy⟩,pst,(q0,q1,q2)⟩).toArray 152)).heap[wr.heap.size]?=some (.cells #[.int .i64 k,.bool hm,.int .i64 ht,.int .i64 hx,.int .i64 hy,.int .u64 pst,.int .u64 q0,.int .u64 q1,.int .u64 q2] 152 (0,0)):=yd wr _;have g:(wr.alloc (.cells (hpVals ⟨⟨k,hm,ht,hx,hy⟩,pst,(q0,q1,q2)⟩).toArray 152)).heap[sb]?=some (.cells #[.slice none 0 0,.int .u64 st,.int .u64 S,.int .u64 N,.int .u64 M,.int .u64 j0,.int .u64 j1,.int .u64 j2,.int .i64 (A 0),.int .i64 (A 1),.int .i64 (A 2),.int .i64 (A 3),.int .i64 (A 4),.int .i64 (A 5),.int .i64 (A 6),.int .i64 (A 7)] 108 (0,0)):=heapO _ HQ.o.2.2.1;have T0:sb<wr.heap.size:=(ya.1 HQ.o.2.2.1).1;have hB:Below sb w1 (wr.alloc (.cells (hpVals ⟨⟨k,hm,ht,hx,hy⟩,pst,(q0,q1,q2)⟩).toArray 152)):=HQ.o.1.alloc (by omega) _;have hO:=qf HQ.o.2.1 ((yf _ wr).alloc (ye _) (.cells (hpVals ⟨⟨k,hm,ht,hx,hy⟩,pst,(q0,q1,q2)⟩).toArray 152));clear A7;revert hP g hB hO;generalize wr.alloc (.cells (hpVals ⟨⟨k,hm,ht,hx,hy⟩,pst,(q0,q1,q2)⟩).toArray 152)=w3;have E6:wr.heap.size≠sb:=(by omega);revert E6;clear T0;generalize wr.heap.size=pb;intro E6 hP g hB hO;have P4:=yK hO;clear hO;have V:=yK hB;clear hB;have a1:w3.cell? ⟨sb,1,none⟩=some (.int .u64 st):=(by simp only[World.cell?,g];rfl);have f1:w3.frozen? ⟨sb,1,none⟩=false:=frozen_of_row w3 _ 1 _ _ g;have p5:w3.cell? ⟨pb,5,none⟩=some (.int .u64 pst):=(by simp only[World.cell?,hP];rfl);by_cases hap:st &&& pst=0
   case neg =>
    have V2:=g;have A9:=yK (C0.o w3 V.o);obtain⟨mm,O8⟩:∃ mm,st &&& pst=mm:=⟨_,rfl⟩;have M1:Hid (zaM T i=true):=yK (by
     cases h:zaM T i with
     | true=>rfl
     | false=>exact kV (G1.o.2 h) hap)
    have F5:bits .and .u64 (st:Int) (pst:Int)=(mm:Int):=(by rw[bB B0 B3,O8]);have V6:((mm:Int)==0)=false:=(by simp only[Ys,ne_eq];omega);have D3:¬ (mm:Int)=0:=(by omega);have S4:¬ mm=0:=(by omega);clear hap O8;go_upto_region 21 with fail;clear a1 f1 p5 F5 V6 D3 S4 V2 hP;obtain⟨B,X,O,G,C⟩:=bZ #[.slice none 0 0,.int .u64 st,.int .u64 S,.int .u64 N,.int .u64 M,.int .u64 j0,.int .u64 j1,.int .u64 j2,.int .i64 (A 0),.int .i64 (A 1),.int .i64 (A 2),.int .i64 (A 3),.int .i64 (A 4),.int .i64 (A 5),.int .i64 (A 6),.int .i64 (A 7)] rfl (by simp[Value.oneCell']);rw[X]at g;refine bQ (n:=3) (i:=i) A9.o g O G C (by omega) (by kernel_rfl) rfl rfl rfl rfl rfl rfl rfl rfl rfl rfl rfl rfl rfl rfl rfl rfl (Yi (by kernel_rfl)) (Yi (by kernel_rfl)) (Yi (by kernel_rfl)) (by decide) (λ _=>by kernel_rfl) (λ _=>by kernel_rfl) (λ _=>by kernel_rfl) ?_;intro cT w10 A1 H A0 I J;clear g;go_wp2_with fail;refine Yb (qR rfl underlying135 rfl underlying108 rfl _ w10 w.heap.size (w.heap.size+1) cT B (0,0) (0,0) I H J O (by kernel_rfl) (by kernel_rfl)) rfl ?_;rw[<- C8.o];exact⟨3,i,B,by rw[A1];rfl,(cov3 (t:=withB t js) M0.o (by rw[zo,K.o];exact J3.o) (by rw[zo,K.o];exact hlt) (by rw[zo,K.o];exact M1.o) (by rw[zo,K.o];exact HQ.o.2.2.2.2)).symm,A0,G,C,λ h=>kV h (by decide)⟩
   have M1:Hid (zaM T i=false):=yK (G1.o.1 hap);have F5:bits .and .u64 (st:Int) (pst:Int)=0:=(by rw[bB B0 B3,hap];rfl);clear hap G1;have S0:=or64 B0 B3;go_upto_region 23 with fail;have A6:(w3.setCell ⟨sb,1,none⟩ (.int .u64 (st ||| pst:Nat))).heap[sb]?=some (.cells #[.slice none 0 0,.int .u64 (st ||| pst:Nat),.int .u64 S,.int .u64 N,.int .u64 M,.int .u64 j0,.int .u64 j1,.int .u64 j2,.int .i64 (A 0),.int .i64 (A 1),.int .i64 (A 2),.int .i64 (A 3),.int .i64 (A 4),.int .i64 (A 5),.int .i64 (A 6),.int .i64 (A 7)] 108 (0,0)):=yI _ _ _ _ _ _ g;have D4:=(yq w3 ⟨sb,1,none⟩ pb (.int .u64 (st ||| pst:Nat)) E6).trans hP;have D:=yK (V.o.setCell (p:=⟨sb,1,none⟩) (ye _) (.int .u64 (st ||| pst:Nat)));have H1:=yK (zq P4.o (a:=⟨sb,1,none⟩) (by simp only;omega) (.int .u64 (st ||| pst:Nat)));clear g hP V P4 a1 f1 p5 F5 S0;revert A6 D4 D H1;generalize w3.setCell ⟨sb,1,none⟩ (.int .u64 (st ||| pst:Nat))=w4;intro A6 D4 D H1;have a2:∀ d:SubW w4,d.1.cell? ⟨sb,2,none⟩=some (.int .u64 S):=λ d=>by simp[World.cell?,d.block A6]
   have a3:∀ d:SubW w4,d.1.cell? ⟨sb,3,none⟩=some (.int .u64 N):=λ d=>by simp[World.cell?,d.block A6]
   have a4:∀ d:SubW w4,d.1.cell? ⟨sb,4,none⟩=some (.int .u64 M):=λ d=>by simp[World.cell?,d.block A6]
   have a5:∀ d:SubW w4,d.1.cell? ⟨sb,5,none⟩=some (.int .u64 j0):=λ d=>by simp[World.cell?,d.block A6]
   have a6:∀ d:SubW w4,d.1.cell? ⟨sb,6,none⟩=some (.int .u64 j1):=λ d=>by simp[World.cell?,d.block A6]
   have a7:∀ d:SubW w4,d.1.cell? ⟨sb,7,none⟩=some (.int .u64 j2):=λ d=>by simp[World.cell?,d.block A6]
   have p6:∀ d:SubW w4,d.1.cell? ⟨pb,6,none⟩=some (.int .u64 q0):=λ d=>by simp[World.cell?,d.block D4]
   have p7:∀ d:SubW w4,d.1.cell? ⟨pb,7,none⟩=some (.int .u64 q1):=λ d=>by simp[World.cell?,d.block D4]
   have p8:∀ d:SubW w4,d.1.cell? ⟨pb,8,none⟩=some (.int .u64 q2):=λ d=>by simp[World.cell?,d.block D4]
   have D7:Hid (∀ d:SubW w4,Calls Tryz.prog 75 #[.agg #[.int .u64 S,.int .u64 N,.int .u64 M],.agg #[.int .u64 q0,.int .u64 q1,.int .u64 q2]] d.1
    λ e w'=>e=.returned (.agg #[.int .u64 (S &&& q0:Nat),.int .u64 (N &&& q1:Nat),.int .u64 (M &&& q2:Nat)])/\∃ d':SubW w4,w'=d'.1):=yK λ d=>gU (S,N,M) (q0,q1,q2) Q4 C7 d
   have F0:Hid (∀ d:SubW w4,Calls Tryz.prog 110 #[.agg #[.int .u64 j0,.int .u64 j1,.int .u64 j2],.agg #[.int .u64 (S &&& q0:Nat),.int .u64 (N &&& q1:Nat),.int .u64 (M &&& q2:Nat)]] d.1
    λ e w'=>e=.returned (.agg #[.int .u64 (j0 ||| (S &&& q0):Nat),.int .u64 (j1 ||| (N &&& q1):Nat),.int .u64 (j2 ||| (M &&& q2):Nat)])/\∃ d':SubW w4,w'=d'.1):=yK λ d=>or_q (j0,j1,j2) (andW (S,N,M) (q0,q1,q2)) V5 (gM C7) d
   refine zg 9 (by kernel_rfl) (by kernel_rfl) ?_;simp only[yh,yj,yi,yl]
   repeat(go_big_quiet_step ((first|exact D7.o _|exact F0.o _)))
   refine wpQuiet_nil ?_;intro dq;have F:=dq.block A6;have H2:=dq.block D4;have A3:=yK (D.o.trans (dq.2.mono (by have:=D.o.size;have:=G8.o;omega)));have B2:=yK (qf H1.o dq.2);clear a2 a3 a4 a5 a6 a7 p6 p7 p8 D7 F0 A6 D4 D H1;revert F H2 A3 B2;generalize dq.1=w5;intro F H2 A3 B2;have af:∀ j,w5.frozen? ⟨sb,j,none⟩=false:=λ j=>frozen_of_row w5 _ j _ _ F;have a5:w5.cell? ⟨sb,5,none⟩=some (.int .u64 j0):=(by simp[World.cell?,F]);have a6:w5.cell? ⟨sb,6,none⟩=some (.int .u64 j1):=(by simp[World.cell?,F]);have a7:w5.cell? ⟨sb,7,none⟩=some (.int .u64 j2):=(by simp[World.cell?,F]);go_upto_region 24 with fail;have C4:(((w5.setCell ⟨sb,5,none⟩ (.int .u64 (j0 ||| (S &&& q0):Nat))).setCell ⟨sb,6,none⟩ (.int .u64 (j1 ||| (N &&& q1):Nat))).setCell ⟨sb,7,none⟩ (.int .u64 (j2 ||| (M &&& q2):Nat))).heap[sb]?=some (.cells #[.slice none 0 0,.int .u64 (st ||| pst:Nat),.int .u64 S,.int .u64 N,.int .u64 M,.int .u64 (j0 ||| (S &&& q0):Nat),.int .u64 (j1 ||| (N &&& q1):Nat),.int .u64 (j2 ||| (M &&& q2):Nat),.int .i64 (A 0),.int .i64 (A 1),.int .i64 (A 2),.int .i64 (A 3),.int .i64 (A 4),.int .i64 (A 5),.int .i64 (A 6),.int .i64 (A 7)] 108 (0,0)):=pD F 5 6 7 (.int .u64 (j0 ||| (S &&& q0):Nat)) (.int .u64 (j1 ||| (N &&& q1):Nat)) (.int .u64 (j2 ||| (M &&& q2):Nat));have D0:=(pj w5 E6 5 6 7 (.int .u64 (j0 ||| (S &&& q0):Nat)) (.int .u64 (j1 ||| (N &&& q1):Nat)) (.int .u64 (j2 ||| (M &&& q2):Nat))).trans H2;have C5:=yK (pE A3.o (ye sb) 5 6 7 (.int .u64 (j0 ||| (S &&& q0):Nat)) (.int .u64 (j1 ||| (N &&& q1):Nat)) (.int .u64 (j2 ||| (M &&& q2):Nat)));have C2:=yK (pV B2.o (kD sb) 5 6 7 (.int .u64 (j0 ||| (S &&& q0):Nat)) (.int .u64 (j1 ||| (N &&& q1):Nat)) (.int .u64 (j2 ||| (M &&& q2):Nat)));clear F H2 A3 B2 a5 a6 a7 af;revert C4 D0 C5 C2;generalize (((w5.setCell ⟨sb,5,none⟩ (.int .u64 (j0 ||| (S &&& q0):Nat))).setCell ⟨sb,6,none⟩ (.int .u64 (j1 ||| (N &&& q1):Nat))).setCell ⟨sb,7,none⟩ (.int .u64 (j2 ||| (M &&& q2):Nat)))=w6;intro C4 D0 C5 C2;have a2:w6.cell? ⟨sb,2,none⟩=some (.int .u64 S):=(by simp[World.cell?,C4]);have a3:w6.cell? ⟨sb,3,none⟩=some (.int .u64 N):=(by simp[World.cell?,C4]);have a4:w6.cell? ⟨sb,4,none⟩=some (.int .u64 M):=(by simp[World.cell?,C4]);have p6:w6.cell? ⟨pb,6,none⟩=some (.int .u64 q0):=(by simp[World.cell?,D0]);have p7:w6.cell? ⟨pb,7,none⟩=some (.int .u64 q1):=(by simp[World.cell?,D0]);have p8:w6.cell? ⟨pb,8,none⟩=some (.int .u64 q2):=(by simp[World.cell?,D0]);have F0:Hid (Calls Tryz.prog 110 #[.agg #[.int .u64 S,.int .u64 N,.int .u64 M],.agg #[.int .u64 q0,.int .u64 q1,.int .u64 q2]] w6
    λ e w'=>e=.returned (.agg #[.int .u64 (S ||| q0:Nat),.int .u64 (N ||| q1:Nat),.int .u64 (M ||| q2:Nat)])/\Grew w6 w'):=yK (mM (S,N,M) (q0,q1,q2) Q4 C7 w6)
   go_wp2_with fail;refine F0.o.mono ?_;rintro e w7 ⟨rfl,I1⟩;have G2:=I1.below;have E4:=(G2.block _ (ya.1 C4).1).trans C4;have N6:=(G2.block _ (ya.1 D0).1).trans D0;have R4:=yK (C5.o.trans (G2.mono (by have:=C5.o.size;have:=G8.o;omega)));have N4:=yK (qf C2.o G2);clear a2 a3 a4 p6 p7 p8 F0 C4 D0 C5 C2 I1 G2;have af:∀ j,w7.frozen? ⟨sb,j,none⟩=false:=λ j=>frozen_of_row w7 _ j _ _ E4;have a2:w7.cell? ⟨sb,2,none⟩=some (.int .u64 S):=(by simp[World.cell?,E4]);have a3:w7.cell? ⟨sb,3,none⟩=some (.int .u64 N):=(by simp[World.cell?,E4]);have a4:w7.cell? ⟨sb,4,none⟩=some (.int .u64 M):=(by simp[World.cell?,E4]);go_upto_region 25 with fail;have E0:(((w7.setCell ⟨sb,2,none⟩ (.int .u64 (S ||| q0:Nat))).setCell ⟨sb,3,none⟩ (.int .u64 (N ||| q1:Nat))).setCell ⟨sb,4,none⟩ (.int .u64 (M ||| q2:Nat))).heap[sb]?=some (.cells #[.slice none 0 0,.int .u64 (st ||| pst:Nat),.int .u64 (S ||| q0:Nat),.int .u64 (N ||| q1:Nat),.int .u64 (M ||| q2:Nat),.int .u64 (j0 ||| (S &&& q0):Nat),.int .u64 (j1 ||| (N &&& q1):Nat),.int .u64 (j2 ||| (M &&& q2):Nat),.int .i64 (A 0),.int .i64 (A 1),.int .i64 (A 2),.int .i64 (A 3),.int .i64 (A 4),.int .i64 (A 5),.int .i64 (A 6),.int .i64 (A 7)] 108 (0,0)):=pD E4 2 3 4 (.int .u64 (S ||| q0:Nat)) (.int .u64 (N ||| q1:Nat)) (.int .u64 (M ||| q2:Nat));have H3:=(pj w7 E6 2 3 4 (.int .u64 (S ||| q0:Nat)) (.int .u64 (N ||| q1:Nat)) (.int .u64 (M ||| q2:Nat))).trans N6;have I0:=yK (pE R4.o (ye sb) 2 3 4 (.int .u64 (S ||| q0:Nat)) (.int .u64 (N ||| q1:Nat)) (.int .u64 (M ||| q2:Nat)));have H4:=yK (pV N4.o (kD sb) 2 3 4 (.int .u64 (S ||| q0:Nat)) (.int .u64 (N ||| q1:Nat)) (.int .u64 (M ||| q2:Nat)));clear E4 N6 R4 N4 a2 a3 a4 af;revert E0 H3 I0 H4;generalize (((w7.setCell ⟨sb,2,none⟩ (.int .u64 (S ||| q0:Nat))).setCell ⟨sb,3,none⟩ (.int .u64 (N ||| q1:Nat))).setCell ⟨sb,4,none⟩ (.int .u64 (M ||| q2:Nat)))=w8;intro E0 H3 I0 H4;have af:∀ j,w8.frozen? ⟨sb,j,none⟩=false:=λ j=>frozen_of_row w8 _ j _ _ E0;have ak:w8.cell? ⟨sb,8+k,none⟩=some (.int .i64 (A k)):=by
    rcases (by omega:k=0\/k=1\/k=2\/k=3\/k=4\/k=5\/k=6\/k=7)with rfl|rfl|rfl|rfl|rfl|rfl|rfl|rfl <;> simp[World.cell?,E0]
   have p0:w8.cell? ⟨pb,0,none⟩=some (.int .i64 k):=(by simp[World.cell?,H3]);go_upto_region 26 with fail;have Q5:(w8.setCell ⟨sb,8+k,none⟩ (.int .i64 ((A k:Int)+1))).heap[sb]?=some (.cells (hsVals (stC (st ||| pst) (S ||| q0) (N ||| q1) (M ||| q2) (j0 ||| (S &&& q0)) (j1 ||| (N &&& q1)) (j2 ||| (M &&& q2)) λ j=>if j=k then A k+1 else A j)).toArray 108 (0,0)):=by
    rw[yI _ _ _ _ _ _ E0];rcases (by omega:k=0\/k=1\/k=2\/k=3\/k=4\/k=5\/k=6\/k=7)with rfl|rfl|rfl|rfl|rfl|rfl|rfl|rfl <;> simp[hsVals,stC]
   have L5:=yK Q5;clear Q5;have M4:=yK (I0.o.setCell (p:=⟨sb,8+k,none⟩) (ye _) (.int .i64 ((A k:Int)+1)));have M6:=yK (zq H4.o (a:=⟨sb,8+k,none⟩) (kD sb) (.int .i64 ((A k:Int)+1)));clear E0 H3 I0 H4 af ak p0;revert L5 M4 M6;generalize w8.setCell ⟨sb,8+k,none⟩ (.int .i64 ((A k:Int)+1))=w9;intro L5 M4 M6;go_wp2_with fail
   go_roundw
   case rel =>
    refine⟨i+1,st ||| pst,S ||| q0,N ||| q1,M ||| q2,j0 ||| (S &&& q0),j1 ||| (N &&& q1),j2 ||| (M &&& q2),λ j=>if j=k then A k+1 else A j,by omega,by go_num,yK ⟨M4.o,?_,L5.o,?_,?_⟩⟩
    ·exact M6.o
    ·rw[R6.o];exact st_snoc HQ.o.2.2.2.1 T8.o (by rw[N0.o];rfl) (by rw[N0.o];rfl) (by rw[N0.o];rfl) rfl
    intro m hm;rcases (by omega:m<i\/m=i)with h|rfl
    ·exact HQ.o.2.2.2.2 m h
    exact M1.o
   case measure=>simp only[intOf];omega
  obtain rfl:i=T.length:=by omega
  have hQ:=HQ.o;rw[Yc]at hQ;obtain⟨O3,O7,I4,Q3,O1⟩:=hQ;have D1:=yK Q3;have F9:Hid (Cov3 (withB t js) l):=yK ⟨M0.o,(by rw[zo,K.o];exact J3.o),(by rw[zo,K.o];exact O1)⟩;clear Q3 O1 HQ;have q0:wr.cell? ⟨sb,0,none⟩=some (.slice none 0 0):=by simp only[World.cell?,I4];rfl
  have f0:wr.frozen? ⟨sb,0,none⟩=false:=frozen_of_row wr _ 0 _ _ I4;go_upto_region 28 with fail;clear q0 f0;have F:(wr.setCell ⟨sb,0,none⟩ (.slice qp T.length qc)).heap[sb]?=some (.cells #[.slice qp T.length qc,.int .u64 st,.int .u64 S,.int .u64 N,.int .u64 M,.int .u64 j0,.int .u64 j1,.int .u64 j2,.int .i64 (A 0),.int .i64 (A 1),.int .i64 (A 2),.int .i64 (A 3),.int .i64 (A 4),.int .i64 (A 5),.int .i64 (A 6),.int .i64 (A 7)] 108 (0,0)):=yI _ _ _ _ _ _ I4;have A3:=yK (O3.setCell (p:=⟨sb,0,none⟩) (ye _) (.slice qp T.length qc));have B2:=yK (zq O7 (a:=⟨sb,0,none⟩) (kD sb) (.slice qp T.length qc));clear O3 O7 I4;revert F A3 B2;generalize wr.setCell ⟨sb,0,none⟩ (.slice qp T.length qc)=w5;intro F A3 B2;have D6:=C0.o w5 A3.o;have B1:=D6.bd.blk;obtain⟨vg,vk,W6,vf,vb,qm,em,pv,P8⟩:=bv;obtain⟨gp,gc,P0⟩:=D6.bd.ground.slice;obtain⟨cp,cc,J1⟩:=D6.bd.counts.slice;obtain⟨fp,fc,O6⟩:=D6.bd.fixed.slice;obtain⟨kp,kc,P6⟩:=D6.bel.slice;simp only at P0 J1 O6 P6;subst P0 J1 O6 P6;have c0:w5.cell? ⟨bb,0,none⟩=some (.slice gp t.ground.length gc):=by simp only[World.cell?,B1];rfl
  have c2:w5.cell? ⟨bb,2,none⟩=some (.slice cp t.counts.length cc):=by simp only[World.cell?,B1];rfl
  have c3:w5.cell? ⟨bb,3,none⟩=some (.slice fp t.fixed.length fc):=by simp only[World.cell?,B1];rfl
  have s1:w5.cell? ⟨sb,1,none⟩=some (.int .u64 st):=by simp only[World.cell?,F];rfl
  have G5:st=setG (covT T) t.ground:=D1.o.set;have B0:st<2 ^ 64:=by rw[G5];exact aN ok.g64 _
  have Q6:Hid (∀ i q,t.ground[i]?=some q->(bits .and .u64 ((st:Int) / 2 ^ i) 1==0)=zaF (withB t js) T i):=yK λ i q hq=>by
   rw[oe B0,xi (t:=withB t js) hq,G5,zG,hq]
  have A8:=yK D6;clear D6 B1 G5 B0;have X1:=ok.g64;have h8:t.counts.length<=8:=by rw[ok.clen];exact ok.k8
  have S6:=yK h8;clear h8;go_wp2_with fail;go_loopw [127] (λ z wq=>∃ i:Nat,i<=t.ground.length/\z=.int .i64 i/\wq=w5/\Hid (∀ j,j<i->zaF (withB t js) T j=false)) (λ z _=>t.ground.length-(intOf z).toNat)
  case atStart=>exact⟨0,YB _,rfl,rfl,yK (λ j hj=>kV hj (by omega))⟩
  obtain⟨i,hi,rfl,rfl,E3⟩:=hrel;by_cases hlt2:i<t.ground.length
  case pos =>
   obtain⟨q,hq⟩:∃ q,t.ground[i]?=some q:=⟨_,yb hlt2⟩;have J6:=Q6.o i q hq;have V0:(0:Int)<=i:=(by omega);have S2:(i:Int)<=64:=(by omega);clear hq;obtain⟨r4,L9⟩:∃ r4,zaF (withB t js) T i=r4:=⟨_,rfl⟩;rw[L9]at J6;have R3:=yK L9;clear L9
   cases r4 with
   | false =>
    go_wp2_with fail
    go_roundw
    case rel=>exact⟨i+1,by omega,by go_num,trivial,yK (λ j hj=>by
     rcases (by omega:j<i\/j=i)with h|rfl
     ·exact E3.o j h
     exact R3.o)⟩
    case measure=>simp only[intOf];omega
   | true =>
    go_upto_region 32 with fail;clear c0 c2 c3 s1 J6 V0 S2;have g:=F;obtain⟨B,X,O,G,C⟩:=bZ #[.slice qp T.length qc,.int .u64 st,.int .u64 S,.int .u64 N,.int .u64 M,.int .u64 j0,.int .u64 j1,.int .u64 j2,.int .i64 (A 0),.int .i64 (A 1),.int .i64 (A 2),.int .i64 (A 3),.int .i64 (A 4),.int .i64 (A 5),.int .i64 (A 6),.int .i64 (A 7)] rfl (by simp[Value.oneCell']);rw[X]at g;refine bQ (n:=4) (i:=i) A8.o g O G C (by omega) (by kernel_rfl) rfl rfl rfl rfl rfl rfl rfl rfl rfl rfl rfl rfl rfl rfl rfl rfl (Yi (by kernel_rfl)) (Yi (by kernel_rfl)) (Yi (by kernel_rfl)) (by decide) (λ _=>by kernel_rfl) (λ _=>by kernel_rfl) (λ _=>by kernel_rfl) ?_;intro cT w10 A1 H A0 I J;clear g;go_wp2_with fail;refine Yb (qR rfl underlying135 rfl underlying108 rfl _ w10 w.heap.size (w.heap.size+1) cT B (0,0) (0,0) I H J O (by kernel_rfl) (by kernel_rfl)) rfl ?_;rw[<- C8.o];exact⟨4,i,B,by rw[A1];rfl,(cov4 (t:=withB t js) F9.o hlt2 (by rw[zo,K.o];exact R3.o) (by rw[zo,K.o];exact E3.o)).symm,A0,G,C,λ h=>kV h (by decide)⟩
  obtain rfl:i=t.ground.length:=by omega
  clear hlt2;go_wp2_with fail;have T6:Hid (∀ i (c:Int),t.counts[i]?=some c->qaF (withB t js) T i=decide (¬ ((A i:Nat):Int)=c)):=yK λ i c hc=>by
   have h1:=D1.o.many i;have h2:A i=manyT T (i:Int):=h1;rw[wR (t:=withB t js) hc,h2]
  go_loopw [146] (λ z wq=>∃ i:Nat,i<=t.counts.length/\z=.int .i64 i/\wq=wr/\Hid (∀ j,j<i->qaF (withB t js) T j=false)) (λ z _=>t.counts.length-(intOf z).toNat)
  case atStart=>exact⟨0,YB _,rfl,rfl,yK (λ j hj=>kV hj (by omega))⟩
  obtain⟨i,hi,rfl,rfl,E7⟩:=hrel;by_cases hlt2:i<t.counts.length
  case pos =>
   have h8:=S6.o;obtain⟨c,hc⟩:∃ c,t.counts[i]?=some c:=⟨_,yb hlt2⟩;obtain⟨ca,rfl,f⟩:=A8.o.bd.counts.at_ (by rintro e;rw[e]at hc;simp at hc);have M8:wr.cell? (ca.add i)=some (.int .i64 c):=RI.at_cell f hc;have M3:=yK (T6.o i c hc);have T7:wr.cell? ⟨sb,8+i,none⟩=some (.int .i64 (A i)):=by
    rcases (by omega:i=0\/i=1\/i=2\/i=3\/i=4\/i=5\/i=6\/i=7)with rfl|rfl|rfl|rfl|rfl|rfl|rfl|rfl <;> simp[World.cell?,F]
   clear hc f;by_cases hmc:((A i:Nat):Int)=c
   case pos =>
    have E2:Hid (qaF (withB t js) T i=false):=yK (by rw[M3.o];exact yv λ h=>h hmc);clear M3;subst hmc;go_wp2_with fail
    go_roundw
    case rel=>exact⟨i+1,by omega,by go_num,trivial,yK (λ j hj=>by
     rcases (by omega:j<i\/j=i)with h|rfl
     ·exact E7.o j h
     exact E2.o)⟩
    case measure=>simp only[intOf];omega
   have E2:Hid (qaF (withB t js) T i=true):=yK (by rw[M3.o];exact yw hmc);have V3:(((A i:Nat):Int)==c)=false:=(by simp only[Ys,ne_eq];exact hmc);go_upto_region 38 with fail;clear c0 c2 c3 s1 M8 T7 V3 hmc h8;have g:=F;obtain⟨B,X,O,G,C⟩:=bZ #[.slice qp T.length qc,.int .u64 st,.int .u64 S,.int .u64 N,.int .u64 M,.int .u64 j0,.int .u64 j1,.int .u64 j2,.int .i64 (A 0),.int .i64 (A 1),.int .i64 (A 2),.int .i64 (A 3),.int .i64 (A 4),.int .i64 (A 5),.int .i64 (A 6),.int .i64 (A 7)] rfl (by simp[Value.oneCell']);rw[X]at g;refine bQ (n:=5) (i:=i) A8.o g O G C (by omega) (by kernel_rfl) rfl rfl rfl rfl rfl rfl rfl rfl rfl rfl rfl rfl rfl rfl rfl rfl (Yi (by kernel_rfl)) (Yi (by kernel_rfl)) (Yi (by kernel_rfl)) (by decide) (λ _=>by kernel_rfl) (λ _=>by kernel_rfl) (λ _=>by kernel_rfl) ?_;intro cT w10 A1 H A0 I J;clear g;go_wp2_with fail;refine Yb (qR rfl underlying135 rfl underlying108 rfl _ w10 w.heap.size (w.heap.size+1) cT B (0,0) (0,0) I H J O (by kernel_rfl) (by kernel_rfl)) rfl ?_;rw[<- C8.o];exact⟨5,i,B,by rw[A1];rfl,(cov5 (t:=withB t js) F9.o (by rw[zo,K.o];exact E3.o) hlt2 (by rw[zo,K.o];exact E2.o) (by rw[zo,K.o];exact E7.o)).symm,A0,G,C,λ h=>kV h (by decide)⟩
  obtain rfl:i=t.counts.length:=by omega
  clear hlt2;clear c0 c2 s1;have c4:wr.cell? ⟨bb,4,none⟩=some (.slice kp js.length kc):=by simp only[World.cell?,A8.o.bd.blk];rfl
  go_wp2_with fail;clear c3;obtain⟨wB,V4⟩:∃ z,z=wr:=⟨_,rfl⟩;subst V4;have E5:Hid (∀ W,Below wB.heap.size wB W->CgI t js L w bb ⟨.slice gp t.ground.length gc,vk,.slice cp t.counts.length cc,.slice fp t.fixed.length fc,.slice kp js.length kc,qm,em,pv,P8⟩ l (.slice vp l.length vc) W):=yK λ W h=>A8.o.keep h;have I7:=yK F;clear F;have G0:sb<wB.heap.size:=(ya.1 I7.o).1;go_loopw [167] (λ z wq=>∃ i:Nat,i<=t.fixed.length/\z=.int .i64 i/\Hid (Below wB.heap.size wB wq/\∀ j,j<i->zaT (withB t js) l j=false)) (λ z _=>t.fixed.length-(intOf z).toNat)
  case atStart=>exact⟨0,YB _,rfl,yK ⟨yf _ _,λ j hj=>kV hj (by omega)⟩⟩
  clear c4;obtain⟨i,hi,rfl,y⟩:=hrel;by_cases hlt2:i<t.fixed.length
  case pos =>
   obtain⟨x,hx⟩:∃ x,t.fixed[i]?=some x:=⟨_,yb hlt2⟩;obtain⟨xa,rfl,f⟩:=(E5.o wr y.o.1).bd.fixed.at_ (by rintro e;rw[e]at hx;simp at hx);have A7:(Instr.loadAt 50 (.pointer (some (xa.add (i*5))))).run Tryz.prog wr=.ok (.agg (ldVals x).toArray) wr:=zl (P:=Tryz.prog) (R:=RL) underlying50 rfl sizeL f hx;have E2:=yK (uv (t:=withB t js) (l:=l) hx);clear f hx;have B7:(Tryz.prog.info? 50).map (·.size)=some (ldVals x).toArray.size:=sizeL;have C1:(ldVals x).toArray.all (·.oneCell')=true:=(by simp[ldVals,Value.oneCell']);go_upto_region 43 with(first
    | (refine qo rfl 50 _ rfl rfl A7 ?_)
    | (refine wpList_store_row rfl 50 _ _ rfl wr.heap.size rfl 50 _ (ldVals x).toArray rfl (yd wr _) B7 rfl C1 ?_;rw[World.setRow_alloc_new]))
   have B6:=yd wr (.cells (ldVals x).toArray 50);have A5:Below wB.heap.size wB (wr.alloc (.cells (ldVals x).toArray 50)):=y.o.1.alloc y.o.1.size _;clear A7;revert B6 A5;generalize wr.alloc (.cells (ldVals x).toArray 50)=w3;generalize wr.heap.size=pb;intro B6 A5;have O0:=yK (sJ l _ x w3 (E5.o w3 A5).arg (by omega));have V:=yK A5;clear A5;go_wp2_with (refine Ya rfl 50 _ rfl pb rfl 50 (ldVals x).toArray (0,0) _ B6 underlying50 rfl B7 ?_);refine O0.o.mono ?_;rintro e w4 ⟨rfl,D5⟩;have D:=yK (V.o.tm D5);clear B6 D5 O0 V B7 C1;by_cases hm:x∈l
   case pos =>
    have D2:Hid (zaT (withB t js) l i=false):=yK (by rw[E2.o];exact yv λ h=>h hm);rw[yw hm];clear hm;go_wp2_with fail
    go_roundw
    case rel=>exact⟨i+1,by omega,by go_num,yK ⟨D.o,λ j hj=>by
     rcases (by omega:j<i\/j=i)with h|rfl
     ·exact y.o.2 j h
     exact D2.o⟩⟩
    case measure=>simp only[intOf];omega
   have D2:Hid (zaT (withB t js) l i=true):=yK (by rw[E2.o];exact yw hm);rw[yv hm];clear hm;have g:=(D.o.block sb G0).trans I7.o;have A9:=yK (E5.o w4 D.o);go_upto_region 44 with fail;obtain⟨B,X,O,G,C⟩:=bZ #[.slice qp T.length qc,.int .u64 st,.int .u64 S,.int .u64 N,.int .u64 M,.int .u64 j0,.int .u64 j1,.int .u64 j2,.int .i64 (A 0),.int .i64 (A 1),.int .i64 (A 2),.int .i64 (A 3),.int .i64 (A 4),.int .i64 (A 5),.int .i64 (A 6),.int .i64 (A 7)] rfl (by simp[Value.oneCell']);rw[X]at g;refine bQ (n:=6) (i:=i) A9.o g O G C (by omega) (by kernel_rfl) rfl rfl rfl rfl rfl rfl rfl rfl rfl rfl rfl rfl rfl rfl rfl rfl (Yi (by kernel_rfl)) (Yi (by kernel_rfl)) (Yi (by kernel_rfl)) (by decide) (λ _=>by kernel_rfl) (λ _=>by kernel_rfl) (λ _=>by kernel_rfl) ?_;intro cT w10 A1 H A0 I J;clear g;go_wp2_with fail;refine Yb (qR rfl underlying135 rfl underlying108 rfl _ w10 w.heap.size (w.heap.size+1) cT B (0,0) (0,0) I H J O (by kernel_rfl) (by kernel_rfl)) rfl ?_;rw[<- C8.o];exact⟨6,i,B,by rw[A1];rfl,(cov6 (t:=withB t js) F9.o (by rw[zo,K.o];exact E3.o) (by rw[zo,K.o];exact E7.o) hlt2 D2.o y.o.2).symm,A0,G,C,λ h=>kV h (by decide)⟩
  obtain rfl:i=t.fixed.length:=by omega
  clear hlt2;have O9:=yK y.o.2;have I3:=yK y.o.1;clear y;obtain⟨wC,T9⟩:∃ z,z=wr:=⟨_,rfl⟩;subst T9;have M2:=yK (E5.o wC I3.o);have E1:=M2.o.bd.blk;have c4:wC.cell? ⟨bb,4,none⟩=some (.slice kp js.length kc):=by simp only[World.cell?,E1];rfl
  clear E1;have C9:Hid (∀ W,Below wC.heap.size wC W->CgI t js L w bb ⟨.slice gp t.ground.length gc,vk,.slice cp t.counts.length cc,.slice fp t.fixed.length fc,.slice kp js.length kc,qm,em,pv,P8⟩ l (.slice vp l.length vc) W/\W.heap[sb]?=wC.heap[sb]?):=yK λ W h=>⟨M2.o.keep h,h.block sb (yO G0 I3.o.size)⟩;have I2:=yK ((I3.o.block sb G0).trans I7.o);have R2:=yK (qf B2.o I3.o);clear M2 I7 E5;go_wp2_with fail;clear c4;go_loopw [186] (λ z wq=>∃ i:Nat,i<=js.length/\z=.int .i64 i/\Hid (Below wC.heap.size wC wq/\∀ j,j<i->zaU (withB t js) T j=false)) (λ z _=>js.length-(intOf z).toNat)
  case atStart=>exact⟨0,YB _,rfl,yK ⟨yf _ _,λ j hj=>kV hj (by omega)⟩⟩
  obtain⟨i,hi,rfl,y⟩:=hrel;by_cases hlt2:i<js.length
  case pos =>
   obtain⟨e,he⟩:∃ e,js[i]?=some e:=⟨_,yb hlt2⟩;obtain⟨xa,rfl,f⟩:=(C9.o wr y.o.1).1.bel.at_ (by rintro e';rw[e']at he;simp at he);have A7:(Instr.loadAt 61 (.pointer (some (xa.add (i*3))))).run Tryz.prog wr=.ok (.agg (eVals e).toArray) wr:=zl (P:=Tryz.prog) (R:=RE) underlying61 rfl (by kernel_rfl) f he;have D2:=yK (BW (t:=withB t js) (T:=T) he);have R7:=yK (T5.o e (yg he));clear f he;have J0:(Tryz.prog.info? 61).map (·.size)=some (eVals e).toArray.size:=(by kernel_rfl);have G6:(eVals e).toArray.all (·.oneCell')=true:=(by simp[eVals,Value.oneCell']);go_upto_region 49 with(first
    | (refine qo rfl 61 _ rfl rfl A7 ?_)
    | (refine wpList_store_row rfl 61 _ _ rfl wr.heap.size rfl 61 _ (eVals e).toArray rfl (yd wr _) J0 rfl G6 ?_;rw[World.setRow_alloc_new]))
   simp only[Act.put];have hC:=yd wr (.cells (eVals e).toArray 61);have A5:Below wC.heap.size wC (wr.alloc (.cells (eVals e).toArray 61)):=y.o.1.alloc y.o.1.size _;clear A7 J0 G6;revert hC A5;generalize wr.alloc (.cells (eVals e).toArray 61)=w3;generalize wr.heap.size=pb;intro hC A5;have V:=yK A5;clear A5;have E1:=(C9.o w3 V.o).1.bd;have D3:=E1.edge;have B1:=E1.blk;clear E1;simp only at D3 B1;obtain⟨ex,ey,ek⟩:=e;have d1:∀ d:SubW w3,d.1.cell? ⟨bb,6,none⟩=some (.map (some em)):=λ d=>by simp only[World.cell?,d.block B1];rfl
   have d2:∀ d:SubW w3,d.1.cell? ⟨pb,0,none⟩=some (.int .i64 ex):=λ d=>by simp[World.cell?,d.block hC,eVals]
   have d3:∀ d:SubW w3,d.1.cell? ⟨pb,1,none⟩=some (.int .i64 ey):=λ d=>by simp[World.cell?,d.block hC,eVals]
   have d4:∀ d:SubW w3,d.1.cell? ⟨pb,2,none⟩=some (.int .i64 ek):=λ d=>by simp[World.cell?,d.block hC,eVals]
   have I9:∀ p∈numE L,okE p.1:=λ p hp=>V7.o p.1 (by rw[<- aF L];exact yP.2 ⟨p,hp,rfl⟩);clear hC B1;by_cases hin:(⟨ex,ey,ek⟩:E)∈L
   case neg =>
    have d5:∀ d:SubW w3,(Instr.lookup 147 (.map (some em)) (.agg #[.int .i64 ex,.int .i64 ey,.int .i64 ek]) true).run Tryz.prog d.1=.ok (.tuple #[.int .i64 0,.bool false]) d.1:=λ d =>
     zN encE underlying147 (zeroValue3 _) (HasM.below D3 d.2) I9 R7.o (λ p hp e=>hin (by rw[<- aF L];exact yP.2 ⟨p,hp,e⟩)) true
    have F1:Hid (zaU (withB t js) T i=false):=yK (by
     rw[D2.o];unfold jointT;rw[List.filter_eq_nil_iff.2 λ p hp=>by
      rw[decide_eq_true_iff];exact λ hb=>hin (ok.inL p (M5.o p hp) _ hb)]
     rfl)
    clear D3 I9 hin;refine zg 11 (by kernel_rfl) (by kernel_rfl) ?_;simp only[yh,yj,yi,yl]
    repeat(go_big_quiet_step (fail))
    refine wpQuiet_nil ?_;intro dq;have D:=yK (V.o.tm dq.2);clear d1 d2 d3 d4 d5;revert D;generalize dq.1=w4;intro D;go_upto_region 50 with fail;refine zg 11 (by kernel_rfl) (by kernel_rfl) ?_;simp only[yh,yj,yi,yl]
    repeat(go_big_quiet_step (fail))
    refine wpQuiet_nil ?_;intro dq;have A3:=yK (D.o.tm dq.2);revert A3;generalize dq.1=w5;intro A3;go_wp2_with fail
    go_roundw
    case rel=>exact⟨i+1,by omega,by go_num,yK ⟨A3.o,λ j hj=>by
     rcases (by omega:j<i\/j=i)with h|rfl
     ·exact y.o.2 j h
     exact F1.o⟩⟩
    case measure=>simp only[intOf];omega
   obtain⟨n,hn⟩:=yV hin;have O5:n<192:=yO (yc.1 hn).1 ok.l192;have d5:∀ d:SubW w3,(Instr.lookup 147 (.map (some em)) (.agg #[.int .i64 ex,.int .i64 ey,.int .i64 ek]) true).run Tryz.prog d.1=.ok (.tuple #[.int .i64 n,.bool true]) d.1:=λ d =>
    zB encE underlying147 (HasM.below D3 d.2) I9 (by rw[aF];exact P7.o) (fF hn) true
   have T1:=yK hn;clear D3 I9 hin hn;refine zg 11 (by kernel_rfl) (by kernel_rfl) ?_;simp only[yh,yj,yi,yl]
   repeat(go_big_quiet_step (fail))
   refine wpQuiet_nil ?_;intro dq;have D:=yK (V.o.tm dq.2);clear d1 d2 d3 d4 d5;revert D;generalize dq.1=w4;intro D;have A6:=(C9.o w4 D.o).2.trans I2.o;have a5:∀ d:SubW w4,d.1.cell? ⟨sb,5,none⟩=some (.int .u64 j0):=λ d=>by simp[World.cell?,d.block A6]
   have a6:∀ d:SubW w4,d.1.cell? ⟨sb,6,none⟩=some (.int .u64 j1):=λ d=>by simp[World.cell?,d.block A6]
   have a7:∀ d:SubW w4,d.1.cell? ⟨sb,7,none⟩=some (.int .u64 j2):=λ d=>by simp[World.cell?,d.block A6]
   have L4:(j0,j1,j2)=wordsE (jointT T) L:=D1.o.joint;have J2:okW (j0,j1,j2):=(by rw[L4];exact zX _ _);obtain⟨⟨y0,y1,y2⟩,hY⟩:∃ Y,withW (0,0,0) n=Y:=⟨_,rfl⟩;obtain⟨⟨z0,z1,z2⟩,hZ⟩:∃ Z,andW (j0,j1,j2) (y0,y1,y2)=Z:=⟨_,rfl⟩;have J5:okW (y0,y1,y2):=(by rw[<- hY];exact Cj (x:=(0,0,0)) ⟨by decide,by decide,by decide⟩ O5);have I6:Hid (∀ d:SubW w4,Calls Tryz.prog 106 #[.agg #[.int .u64 0,.int .u64 0,.int .u64 0],.int .i64 n] d.1 λ e w'=>e=.returned (.agg #[.int .u64 y0,.int .u64 y1,.int .u64 y2])/\∃ d':SubW w4,w'=d'.1):=yK λ d=>by
    have:=ig (0,0,0) n ⟨by decide,by decide,by decide⟩ O5 d.1;rw[hY]at this;refine this.mono ?_;rintro e w' ⟨rfl,hb⟩;exact⟨rfl,⟨w',d.2.tm hb⟩,rfl⟩
   have D7:Hid (∀ d:SubW w4,Calls Tryz.prog 75 #[.agg #[.int .u64 j0,.int .u64 j1,.int .u64 j2],.agg #[.int .u64 y0,.int .u64 y1,.int .u64 y2]] d.1 λ e w'=>e=.returned (.agg #[.int .u64 z0,.int .u64 z1,.int .u64 z2])/\∃ d':SubW w4,w'=d'.1):=yK λ d=>by
    have:=gU (j0,j1,j2) (y0,y1,y2) J2 J5 d;rw[hZ]at this;exact this
   have Q1:Hid (((z0,z1,z2):W3)=(0,0,0)↔jointT T ⟨ex,ey,ek⟩=false):=yK (by rw[<- hZ,<- hY,L4];exact Al P7.o ok.l192 T1.o (jointT T));clear hY hZ J5 J2 L4 A6;go_upto_region 50 with fail
   cases hp:jointT T ⟨ex,ey,ek⟩with
   | false =>
    have G7:((z0,z1,z2):W3)=(0,0,0):=Q1.o.2 hp;have F4:∀ d:SubW w4,(Op.equalIn 10000 105 (.agg #[.int .u64 z0,.int .u64 z1,.int .u64 z2]) (.agg #[.int .u64 0,.int .u64 0,.int .u64 0])).run Tryz.prog d.1=.ok true d.1:=λ d=>(dW (z0,z1,z2) (0,0,0) d.1).trans (by rw[yw G7]);have F1:Hid (zaU (withB t js) T i=false):=yK (D2.o.trans hp);clear G7 hp;refine zg 11 (by kernel_rfl) (by kernel_rfl) ?_;simp only[yh,yj,yi,yl]
    repeat(go_big_quiet_step ((first|exact I6.o _|exact D7.o _)))
    refine wpQuiet_nil ?_;intro dq;have A3:=yK (D.o.tm dq.2);clear F4 a5 a6 a7 I6 D7;revert A3;generalize dq.1=w5;intro A3;go_wp2_with fail
    go_roundw
    case rel=>exact⟨i+1,by omega,by go_num,yK ⟨A3.o,λ j hj=>by
     rcases (by omega:j<i\/j=i)with h|rfl
     ·exact y.o.2 j h
     exact F1.o⟩⟩
    case measure=>simp only[intOf];omega
   | true =>
    have G7:¬ ((z0,z1,z2):W3)=(0,0,0):=λ h=>by have:=Q1.o.1 h;rw[hp]at this;cases this
    have F4:∀ d:SubW w4,(Op.equalIn 10000 105 (.agg #[.int .u64 z0,.int .u64 z1,.int .u64 z2]) (.agg #[.int .u64 0,.int .u64 0,.int .u64 0])).run Tryz.prog d.1=.ok false d.1:=λ d=>(dW (z0,z1,z2) (0,0,0) d.1).trans (by rw[yv G7]);have F1:Hid (zaU (withB t js) T i=true):=yK (D2.o.trans hp);clear G7 hp;refine zg 11 (by kernel_rfl) (by kernel_rfl) ?_;simp only[yh,yj,yi,yl]
    repeat(go_big_quiet_step ((first|exact I6.o _|exact D7.o _)))
    refine wpQuiet_nil ?_;intro dq;have B5:=D.o.tm dq.2;have g:=(C9.o dq.1 B5).2.trans I2.o;have A9:=yK (C9.o dq.1 B5).1;clear F4 a5 a6 a7 I6 D7 B5;revert g A9;generalize dq.1=w5;intro g A9;go_upto_region 51 with fail;obtain⟨B,X,O,G,C⟩:=bZ #[.slice qp T.length qc,.int .u64 st,.int .u64 S,.int .u64 N,.int .u64 M,.int .u64 j0,.int .u64 j1,.int .u64 j2,.int .i64 (A 0),.int .i64 (A 1),.int .i64 (A 2),.int .i64 (A 3),.int .i64 (A 4),.int .i64 (A 5),.int .i64 (A 6),.int .i64 (A 7)] rfl (by simp[Value.oneCell']);rw[X]at g;refine bQ (n:=7) (i:=i) A9.o g O G C (by omega) (by kernel_rfl) rfl rfl rfl rfl rfl rfl rfl rfl rfl rfl rfl rfl rfl rfl rfl rfl (Yi (by kernel_rfl)) (Yi (by kernel_rfl)) (Yi (by kernel_rfl)) (by decide) (λ _=>by kernel_rfl) (λ _=>by kernel_rfl) (λ _=>by kernel_rfl) ?_;intro cT w10 A1 H A0 I J;clear g;go_wp2_with fail;refine Yb (qR rfl underlying135 rfl underlying108 rfl _ w10 w.heap.size (w.heap.size+1) cT B (0,0) (0,0) I H J O (by kernel_rfl) (by kernel_rfl)) rfl ?_;rw[<- C8.o];exact⟨7,i,B,by rw[A1];rfl,(cov7 (t:=withB t js) F9.o (by rw[zo,K.o];exact E3.o) (by rw[zo,K.o];exact E7.o) O9.o hlt2 (by rw[zo,K.o];exact F1.o) (by rw[zo,K.o];exact y.o.2)).symm,A0,G,C,λ h=>kV h (by decide)⟩
  obtain rfl:i=js.length:=by omega
  have R9:=yK y.o.2;have A8:=yK (C9.o wr y.o.1).1;have F:=(C9.o wr y.o.1).2.trans I2.o;have B2:=yK (qf R2.o y.o.1);clear y C9 R2 I2;go_wp2_with fail;have hF:=A8.o.fbox;have hR:=A8.o.rbox;have J7:sb≠w.heap.size:=by omega
  have D8:w.heap.size+1≠w.heap.size:=by omega
  obtain⟨B,X⟩:∃ B:Array Value,#[.slice qp T.length qc,.int .u64 st,.int .u64 S,.int .u64 N,.int .u64 M,.int .u64 j0,.int .u64 j1,.int .u64 j2,.int .i64 (A 0),.int .i64 (A 1),.int .i64 (A 2),.int .i64 (A 3),.int .i64 (A 4),.int .i64 (A 5),.int .i64 (A 6),.int .i64 (A 7)]=B:=⟨_,rfl⟩;rw[X]at F;have O:(Tryz.prog.info? 108).map (·.size)=some B.size:=by rw[<- X];exact sizeS
  have C:B.all (·.oneCell')=true:=by rw[<- X];simp[Value.oneCell']
  have H:(Tryz.prog.info? 135).map (·.size)=some (#[.int .i64 0,.int .i64 0]:Array Value).size:=by kernel_rfl
  have X2:=(setRow_other wr w.heap.size (w.heap.size+1) #[.int .i64 0,.int .i64 0] D8).trans hR;have W2:=(setRow_other wr w.heap.size sb #[.int .i64 0,.int .i64 0] J7).trans F;have N1:=yK X;clear X;have M9:∃ c,Tryz.prog.built 135 []=some c/\c=#[.int .i64 0,.int .i64 0]:=⟨_,rfl,rfl⟩;obtain⟨cT,M9,A1⟩:=M9;rw[<- A1]at hF H;refine vK (T:=135) (U:=108) (cT:=cT) (cU:=B) (bT:=w.heap.size) (bU:=w.heap.size+1) (bX:=sb) (by kernel_rfl) (by kernel_rfl) rfl rfl rfl rfl rfl rfl rfl rfl rfl rfl rfl rfl M9 (Yi (by kernel_rfl)) (Yi (by kernel_rfl)) (by decide) (by kernel_rfl) (by kernel_rfl) (by kernel_rfl) F hF hR J7 D8 underlying108 rfl H O rfl (by rw[<- N1.o];rfl) (by rw[A1];simp[Value.oneCell']) C ?_;have A0:Below w.heap.size w (((wr.drewN 1).setRow w.heap.size cT).setRow (w.heap.size+1) B):=zi (zi (A8.o.below.trans (below_drewN _ wr 1)) (ye _) _) (YE _) _;have N3:RP.Own (((wr.drewN 1).setRow w.heap.size cT).setRow (w.heap.size+1) B) (sb+1) (.slice qp T.length qc) (T.map (hpT t.ground L)):=zk (zk (qf B2.o (below_drewN _ wr 1)) λ kk e=>setRow_other _ _ _ _ (by have:=(qg B2.o e).1;omega)) λ kk e=>setRow_other _ _ _ _ (by have:=(qg B2.o e).1;omega);have I:(((wr.drewN 1).setRow w.heap.size cT).setRow (w.heap.size+1) B).heap[w.heap.size]?=some (.cells cT 135 (0,0)):=(setRow_other ((wr.drewN 1).setRow w.heap.size cT) (w.heap.size+1) w.heap.size B D8.symm).trans (setRow_heap (wr.drewN 1) w.heap.size _ cT _ _ hF);have J:(((wr.drewN 1).setRow w.heap.size cT).setRow (w.heap.size+1) B).heap[w.heap.size+1]?=some (.cells B 108 (0,0)):=setRow_heap ((wr.drewN 1).setRow w.heap.size cT) (w.heap.size+1) _ B _ _ ((setRow_other (wr.drewN 1) w.heap.size (w.heap.size+1) cT D8).trans hR);revert A0 N3 I J;generalize ((wr.drewN 1).setRow w.heap.size cT).setRow (w.heap.size+1) B=w10;intro A0 N3 I J;go_wp2_with fail;refine Yb (qR rfl underlying135 rfl underlying108 rfl _ w10 w.heap.size (w.heap.size+1) cT B (0,0) (0,0) I H J O (by kernel_rfl) (by kernel_rfl)) rfl ?_;rw[<- C8.o];exact⟨0,0,B,by rw[A1];rfl,(cov0 (t:=withB t js) F9.o (by rw[zo,K.o];exact E3.o) (by rw[zo,K.o];exact E7.o) O9.o (by rw[zo,K.o];exact R9.o)).symm,A0,(by rw[<- N1.o];rfl),C,λ _=>⟨⟨qp,T.length,qc,st,(S,N,M),(j0,j1,j2),A⟩,by rw[<- N1.o];rfl,by rw[K.o];exact⟨D1.o.set,D1.o.bord,D1.o.joint,D1.o.many⟩,by rw[K.o];exact qP N3 (by omega)⟩⟩
