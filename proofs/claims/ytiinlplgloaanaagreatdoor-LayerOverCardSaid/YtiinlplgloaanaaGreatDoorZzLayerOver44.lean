/- Chapter 7 in the heap: Verify, of any task and any plan. -/
import Derived.Test.YtiinlplgloaanaaGreatDoorZzLayerOver35
import Derived.Test.YtiinlplgloaanaaGreatDoorZzLayerOver43
set_option linter.all false
set_option maxRecDepth 100000
set_option maxHeartbeats 16000000
namespace Go.Proofs.YtiinlplgloaanaaGreatDoor
open Go.Proofs.Tryz Go.RowKit
attribute [local go_sem] Oper.semAt_some
theorem qdt (n i:Nat) (W:World):(Op.equalIn 10000 135 (.agg #[.int .i64 n,.int .i64 i]) (.agg #[.int .i64 0,.int .i64 0])).run Tryz.prog W=.ok (decide ((n,i)=(0,0))) W:=by
 rw[run_equalIn_agg W 9999 135 _ _ (by kernel_rfl) (by kernel_rfl)];by_cases h1:n=0 <;> by_cases h2:i=0 <;> simp[go_sem,h1,h2]
theorem BdAt.row {W W':World} {bb b0 base:Nat} {bv:BV} {t:Tk} {L:List E} {ps:List (List HP)} {bel:W3} {vg vk vc vf vb:Value} (h:BdAt W bb bv t L ps bel) (ho:BvOwn W base bv vg vk vc vf vb ps) (hbb:base<=bb) (hb0:b0<base)
  (e:∀ k,k≠b0->W'.heap[k]?=W.heap[k]?) (hg:HasQ W' vg t.ground) (hk:HasQQ W' vk t.kinds) (hc:RI.Has W' vc t.counts) (hf:RL.Has W' vf t.fixed) (hb:∃ js,RE.Has W' vb js):BdAt W' bb bv t L ps bel:=by
 have A:OwnPP W' base bv.pv bv.pvs ps:=⟨qj ho.pp.own λ k hk=>e k (by have:=(qg ho.pp.own hk).1;omega),ho.pp.len,λ i u l hu hl=>qj (ho.pp.each i u l hu hl) λ k hk=>e k (by have:=(qg (ho.pp.each i u l hu hl) hk).1;omega),ho.pp.apart⟩;refine⟨(e bb (by omega)).trans h.blk,by rw[ho.g];exact hg,by rw[ho.k];exact hk,by rw[ho.c];exact hc,by rw[ho.f];exact hf,by rw[ho.b];exact hb,?_,?_,A.has,h.cflat⟩
 ·exact (e _ (by have:=ho.qm;omega)).trans h.quarter
 ·exact (e _ (by have:=ho.em;omega)).trans h.edge
def qdQ (t:Tk) (l:List Ld) (vb:Value) (w:World) (e:Ending) (w':World):Prop:=Bw w w' /\
 ((∃ code:Nat,e=.returned (.tuple #[.pointer none,.agg (hsVals zeroS).toArray,.int .i64 code])/\((¬ OkT t/\code=2)\/(OkT t/\16<l.length/\code=5)\/(OkT t/\l.length<=16/\coversT t l≠(0,0)/\code=9))) \/
  (∃ (bb:Nat) (bv:BV) (L:List E) (S:HS),e=.returned (.tuple #[.pointer (some ⟨bb,0,none⟩),.agg (hsVals S).toArray,.int .i64 0])/\OkT t/\l.length<=16/\coversT t l=(0,0)/\BdAt w' bb bv t L (pcsT t L) (belT t L)/\LOk t.ground L/\StT t.ground L (parts t l) S/\RP.Own w' (w.heap.size+2) S.laid ((parts t l).map (hpT t.ground L))/\bv.b=vb))
theorem zgJ {t:Tk} (w:World) (vg vk vc vf vb v:Value) (hg:HasQ w vg t.ground) (hk:HasQQ w vk t.kinds) (hc:RI.Has w vc t.counts) (hcf:flatV vc) (hf:RL.Has w vf t.fixed) (hb:RE.Has w vb t.below) (hcl:t.counts.length<=1000) (hbl:t.below.length<=1000000) (htb:TbAt w) (l:List Ld) (hll:l.length<=1000000) (hv:RL.Has w v l) :
  Calls Tryz.prog 54 #[.agg #[vg,vk,vc,vf,vb],v] w (qdQ t l vb w):=by
 obtain⟨gp,gc,rfl⟩:=hg.slice;obtain⟨kp,kc,rfl⟩:=hk.slice;obtain⟨cp,cc,rfl⟩:=hc.slice;obtain⟨fp,fc,rfl⟩:=hf.slice;obtain⟨bp,bc,rfl⟩:=hb.slice;obtain⟨vp,vq,rfl⟩:=hv.slice;have C9:∀ W,Bw w W->Calls Tryz.prog 13 #[.agg #[.slice gp t.ground.length gc,.slice kp t.kinds.length kc,.slice cp t.counts.length cc,.slice fp t.fixed.length fc,.slice bp t.below.length bc]] W (CkPost t W) :=
  λ W h=>qau W _ _ _ _ _ (hg.below h) (hk.below h) (hc.below h) (hf.below h) (hb.below h) hcl hbl
 have D0:OkT t->∀ W,Bw w W->Calls Tryz.prog 37 #[.agg #[.slice gp t.ground.length gc,.slice kp t.kinds.length kc,.slice cp t.counts.length cc,.slice fp t.fixed.length fc,.slice bp t.below.length bc]] W λ e w'=>∃ (bb:Nat) (bv:BV) (L:List E),e=.returned (.pointer (some ⟨bb,0,none⟩))/\W.heap.size<=bb/\BdAt w' bb bv t L (pcsT t L) (belT t L)/\LOk t.ground L/\Bw W w'/\BvOwn w' W.heap.size bv (.slice gp t.ground.length gc) (.slice kp t.kinds.length kc) (.slice cp t.counts.length cc) (.slice fp t.fixed.length fc) (.slice bp t.below.length bc) (pcsT t L) :=
  λ ho W h=>zaY ho W _ _ _ _ _ (hg.below h) (hk.below h) (hc.below h) hcf (hf.below h) (hb.below h)
 have B3:∀ W bb bv L,OkT t->l.length<=16->Bw w W->LOk t.ground L->BdAt W bb bv t L (pcsT t L) (belT t L)->bv.b=.slice bp t.below.length bc->Calls Tryz.prog 59 #[.pointer (some ⟨bb,0,none⟩),.slice vp l.length vq] W (CovPost t t.below L l W) :=
  λ W bb bv L ho h16 h hl O K=>qcq ho hl W bb bv O (htb.below h) l h16 _ (hv.below h) (by rw[K];exact hb.below h)
 have E2:Hid (∀ W,Bw w W->HasQ W (.slice gp t.ground.length gc) t.ground/\HasQQ W (.slice kp t.kinds.length kc) t.kinds/\RI.Has W (.slice cp t.counts.length cc) t.counts/\RL.Has W (.slice fp t.fixed.length fc) t.fixed/\RE.Has W (.slice bp t.below.length bc) t.below):=yK λ W h=>⟨hg.below h,hk.below h,hc.below h,hf.below h,hb.below h⟩;have C5:=yK C9;clear C9;have B7:=yK D0;clear D0;have B8:=yK B3;clear B3 hg hk hc hf htb hcf hv hb;go_enter func54,ntmps54;go_wp2_with fail;obtain⟨hT,hZ,hB⟩:=qP w (.cells #[.slice gp t.ground.length gc,.slice kp t.kinds.length kc,.slice cp t.counts.length cc,.slice fp t.fixed.length fc,.slice bp t.below.length bc] 34) (.cells (hsVals zeroS).toArray 108);have V:((w.alloc (.cells #[.slice gp t.ground.length gc,.slice kp t.kinds.length kc,.slice cp t.counts.length cc,.slice fp t.fixed.length fc,.slice bp t.below.length bc] 34)).alloc (.cells (hsVals zeroS).toArray 108)).heap.size=w.heap.size+2:=by rw[yp,yp]
 revert hT hZ hB V;change _->_->_->_->Calls _ _ _ ((w.alloc (.cells #[.slice gp t.ground.length gc,.slice kp t.kinds.length kc,.slice cp t.counts.length cc,.slice fp t.fixed.length fc,.slice bp t.below.length bc] 34)).alloc (.cells (hsVals zeroS).toArray 108)) _;generalize (w.alloc (.cells #[.slice gp t.ground.length gc,.slice kp t.kinds.length kc,.slice cp t.counts.length cc,.slice fp t.fixed.length fc,.slice bp t.below.length bc] 34)).alloc (.cells (hsVals zeroS).toArray 108)=w1;intro hT hZ hB V;have B1:=(ya.1 hZ).1;have HB:=yK hB;clear hB;have A9:=(ya.1 hT).1;refine (C5.o w1 HB.o).mono ?_;rintro e w2 ⟨E5,rfl,h0,h2,R⟩;have A5:=(R.block _ A9).trans hT;have D:=(R.block _ B1).trans hZ;have x:=(ya.1 D).1;have s:w.heap.size+2<=w2.heap.size:=by rw[<- V];exact R.size
 have B5:=yK s;clear s V;have Y:=yK (HB.o.tm R);clear R HB A9;have C:(Tryz.prog.info? 108).map (·.size)=some (hsVals zeroS).toArray.size:=sizeS;have F:(hsVals zeroS).toArray.all (·.oneCell')=true:=by simp[hsVals,zeroS,Value.oneCell']
 rcases h2 with rfl|rfl
 case inr =>
  have E4:Hid (¬ OkT t):=yK λ h=>absurd (h0.2 h) (by decide);clear h0 A5 hT;go_wp2_with (refine zae rfl 108 _ _ rfl (w.heap.size+1) rfl 108 (hsVals zeroS).toArray rfl D C F ?_);refine Yc (qbb rfl underlying108 rfl _ _ (w.heap.size+1) (hsVals zeroS).toArray (0,0) _ _ D C rfl rfl rfl) rfl ?_;exact⟨Y.o,.inl ⟨2,rfl,.inl ⟨E4.o,rfl⟩⟩⟩
 case inl =>
  have J:Hid (OkT t):=yK (h0.1 rfl);have A:∀ j,w2.cell? ⟨w.heap.size,j,none⟩=(#[.slice gp t.ground.length gc,.slice kp t.kinds.length kc,.slice cp t.counts.length cc,.slice fp t.fixed.length fc,.slice bp t.below.length bc]:Array Value)[j]?:=λ j=>by simp only[World.cell?,A5];simp
  have c0:=A 0;have c1:=A 1;have c2:=A 2;have c3:=A 3;have c4:=A 4;simp at c0 c1 c2 c3 c4;clear A hT C5 A5 h0 hZ B1;have HL:=yK (B7.o J.o w2 Y.o);clear B7;by_cases h16:l.length<=16
  case neg =>
   have D2:decide ((16:Int)<(l.length:Int))=true:=yw (by omega);clear c0 c1 c2 c3 c4;have T:=yK h16;clear h16;go_wp2_with (refine zae rfl 108 _ _ rfl (w.heap.size+1) rfl 108 (hsVals zeroS).toArray rfl D C F ?_);refine Yc (qbb rfl underlying108 rfl _ _ (w.heap.size+1) (hsVals zeroS).toArray (0,0) _ _ D C rfl rfl rfl) rfl ?_;exact⟨Y.o,.inl ⟨5,rfl,.inr (.inl ⟨J.o,by have:=T.o;omega,rfl⟩)⟩⟩
  have D2:decide ((16:Int)<(l.length:Int))=false:=yv (by omega);have T:=yK h16;clear h16;go_wp2_with fail;refine HL.o.mono ?_;rintro e w3 ⟨bb,bv,L,rfl,C4,O,M,f,K⟩;have A6:=(f.block _ x).trans D;have q:=(ya.1 A6).1;have C8:=yK (Y.o.tm f);have B2:w.heap.size+2<=w3.heap.size:=yJ B5.o f.size;clear f HL;have B6:=yK (B8.o w3 bb bv L J.o T.o C8.o M O K.b);have A7:=yK (And.intro O K);have B0:=yK (And.intro C4 B2);clear C4 B2;have E0:=yK M;clear M;clear B8 O c0 c1 c2 c3 c4 K;go_wp2_with fail;refine B6.o.mono ?_;rintro e w4 ⟨n,i,cS,rfl,C3,a,C2,p,y⟩;have A4:=yK C3;clear C3;have m:=yK y;clear y;have A1:=(a.block _ q).trans A6;have C6:=(ya.1 A1).1;have r:=yK a;have D3:=yK (C8.o.tm a);clear a B6 x q D A6;have Z:(Tryz.prog.info? 108).map (·.size)=some cS.size:=by rw[<- C2];exact sizeS
  obtain⟨cF,I⟩:∃ cF:Array Value,#[.int .i64 n,.int .i64 i]=cF:=⟨_,rfl⟩;have N:(Tryz.prog.info? 135).map (·.size)=some cF.size:=by rw[<- I];kernel_rfl
  have C7:cF.all (·.oneCell')=true:=by rw[<- I];simp[Value.oneCell']
  have E1:(#[.int .i64 0,.int .i64 0]:Array Value).size=cF.size:=by rw[<- I];rfl
  have c:∀ W,(Op.equalIn 10000 135 (.agg cF) (.agg #[.int .i64 0,.int .i64 0])).run Tryz.prog W=.ok (decide ((n,i)=(0,0))) W:=λ W=>by rw[<- I];exact qdt n i W
  rw[I];clear I;have A3:=(qP w4 (.cells #[.int .i64 0,.int .i64 0] 135) (.cells (hsVals zeroS).toArray 108)).1;have A8:=(setRow_other ((w4.alloc (.cells #[.int .i64 0,.int .i64 0] 135)).alloc (.cells (hsVals zeroS).toArray 108)) w4.heap.size (w4.heap.size+1) cF (by omega)).trans (qP w4 (.cells #[.int .i64 0,.int .i64 0] 135) (.cells (hsVals zeroS).toArray 108)).2.1;go_upto_region 8 with (first
   | (refine wpList_store_row rfl 135 _ _ rfl w4.heap.size rfl 135 _ cF rfl A3 N E1 C7 ?_)
   | (refine wpList_store_row rfl 108 _ _ rfl (w4.heap.size+1) rfl 108 _ cS rfl A8 Z C2 p ?_))
  simp only[Act.put];have D7:((((w4.alloc (.cells #[.int .i64 0,.int .i64 0] 135)).alloc (.cells (hsVals zeroS).toArray 108)).setRow w4.heap.size cF).setRow (w4.heap.size+1) cS).heap[w4.heap.size]?=some (.cells cF 135 (0,0)):=(setRow_other _ _ _ _ (by omega)).trans (setRow_heap _ _ _ _ _ _ A3);have D4:((((w4.alloc (.cells #[.int .i64 0,.int .i64 0] 135)).alloc (.cells (hsVals zeroS).toArray 108)).setRow w4.heap.size cF).setRow (w4.heap.size+1) cS).heap[w4.heap.size+1]?=some (.cells cS 108 (0,0)):=setRow_heap _ _ _ _ _ _ A8;have A0:Bw w4 ((((w4.alloc (.cells #[.int .i64 0,.int .i64 0] 135)).alloc (.cells (hsVals zeroS).toArray 108)).setRow w4.heap.size cF).setRow (w4.heap.size+1) cS):=zh (zh (qP w4 _ _).2.2 (ye _) _) (by omega) _;have U:=(A0.block _ C6).trans A1;have B:=yK A0;clear A0 A3 A8 A1;revert D7 D4 B U;change _->_->_->_->Code.wp _ _ _ _ ((((w4.alloc (.cells #[.int .i64 0,.int .i64 0] 135)).alloc (.cells (hsVals zeroS).toArray 108)).setRow w4.heap.size cF).setRow (w4.heap.size+1) cS);generalize ((((w4.alloc (.cells #[.int .i64 0,.int .i64 0] 135)).alloc (.cells (hsVals zeroS).toArray 108)).setRow w4.heap.size cF).setRow (w4.heap.size+1) cS)=w5;intro hF hS U B;have D1:=yK (D3.o.tm B.o);by_cases hni:(n,i)=(0,0)
  case neg =>
   have hd:decide ((n,i)=(0,0))=false:=yv hni;rw[hd]at c;have D9:Hid (coversT t l≠(0,0)):=yK (by rw[<- show withB t t.below=t from rfl,<- A4.o];exact hni);clear hni hd;go_wp2_with (first
    | (refine Yb rfl 135 _ rfl w4.heap.size rfl 135 cF (0,0) _ hF underlying135 rfl N ?_)
    | (refine zaQ rfl 135 _ _ _ rfl rfl rfl (by kernel_rfl) (c _) ?_)
    | (refine zae rfl 108 _ _ rfl (w.heap.size+1) rfl 108 (hsVals zeroS).toArray rfl U C F ?_))
   refine Yc (qbb rfl underlying108 rfl _ _ (w.heap.size+1) (hsVals zeroS).toArray (0,0) _ _ U C rfl rfl rfl) rfl ?_;exact⟨D1.o,.inl ⟨9,rfl,.inr (.inr ⟨J.o,T.o,D9.o,rfl⟩)⟩⟩
  have hd:decide ((n,i)=(0,0))=true:=yw hni;rw[hd]at c;obtain⟨rfl,rfl⟩:=Prod.mk.inj hni;obtain⟨S,D8,B4,g⟩:=m.o rfl;have D5:Hid (coversT t l=(0,0)):=yK A4.o.symm;have D6:=yK B4;clear B4;have C1:=yK (qf (qU g B0.o.2) B.o);clear g;clear hni hd m A4;subst D8;go_upto_region 10 with (first
   | (refine Yb rfl 135 _ rfl w4.heap.size rfl 135 cF (0,0) _ hF underlying135 rfl N ?_)
   | (refine zaQ rfl 135 _ _ _ rfl rfl rfl (by kernel_rfl) (c _) ?_))
  have C0:∀ d:SubW w5,(Instr.loadAt 108 (.pointer (some ⟨w4.heap.size+1,0,none⟩))).run Tryz.prog d.1=.ok (.agg (hsVals S).toArray) d.1:=λ d=>by
   have:=run_loadVar_row (P:=Tryz.prog) d.1 (w4.heap.size+1) 108 108 (hsVals S).toArray (0,0) _ (d.block hS) underlying108 rfl Z;simp only[Instr.loadAt,Instr.sureAddr,yG,yH,yz,this]
  simp only[Act.put,yr,yF,yE,Bool.not_true];refine zg 3 (by kernel_rfl) (by kernel_rfl) ?_;simp only[yh,yj,yi,yl]
  repeat (first|((go_big_quiet_want;refine qF 108 _ rfl rfl (by rintro w ⟨d,rfl⟩;exact C0 d) ?_;simp only[Act.put,yr,yF,yE];go_big_quiet_on))|go_big_quiet_step (fail))
  refine wpQuiet_nil ?_;intro dq;have X:=dq.block U;have A2:=D1.o.tm dq.2;have H:=yK (qf C1.o dq.2);have G:=yK ((r.o.tm B.o).trans (dq.2.mono (yJ r.o.size B.o.size)));clear C0 hF hS C1;revert X A2 H G;generalize dq.1=w6;intro X A2 H G;go_wp2_with (refine wpList_store_row rfl 108 _ _ rfl (w.heap.size+1) rfl 108 _ (hsVals S).toArray rfl X Z rfl p ?_);refine Yc (qbb rfl underlying108 rfl _ _ (w.heap.size+1) (hsVals S).toArray (0,0) _ _ (setRow_heap _ _ _ _ _ _ X) Z rfl rfl rfl) rfl ?_;have B9:Bw w (w6.setRow (w.heap.size+1) (hsVals S).toArray):=zh A2 (YF _) _;obtain⟨a1,a2,a3,a4,a5⟩:=E2.o _ B9;have E3:BvOwn w6 w2.heap.size bv (.slice gp t.ground.length gc) (.slice kp t.kinds.length kc) (.slice cp t.counts.length cc) (.slice fp t.fixed.length fc) (.slice bp t.below.length bc) (pcsT t L):=by
   obtain⟨b1,b2,b3,b4,b5,b6,b7,b8⟩:=A7.o.2;exact⟨b1,b2,b3,b4,b5,b6,b7,b8.below G.o⟩
  have z:∀ k,k≠w.heap.size+1->(w6.setRow (w.heap.size+1) (hsVals S).toArray).heap[k]?=w6.heap[k]?:=λ k hk=>setRow_other _ _ _ _ hk;refine⟨B9,.inr ⟨bb,bv,L,S,rfl,J.o,T.o,D5.o,(A7.o.1.keep G.o).row E3 B0.o.1 (by have:=B5.o;omega) z a1 a2 a3 a4 ⟨_,a5⟩,E0.o,D6.o,qj H.o (λ k hk=>z k (by have:=(qg H.o hk).1;omega)),A7.o.2.b⟩⟩
theorem zfI (a b:Ld) (W:World) (n:Nat):(Op.equalIn (n+1+1+1) 50 (.agg (ldVals a).toArray) (.agg (ldVals b).toArray)).run Tryz.prog W=.ok (decide (a=b)) W:=by
 obtain⟨k,m,t,x,y⟩:=a;obtain⟨k',m',t',x',y'⟩:=b;rw[run_equalIn_agg W (n+1+1) 50 _ _ (by kernel_rfl) (by kernel_rfl)];by_cases h:k=k' <;> by_cases h0:m=m' <;> by_cases h1:t=t' <;> by_cases h2:x=x' <;> by_cases h3:y=y' <;> simp[go_sem,ldVals,h,h0,h1,h2,h3]
theorem qiw (x y:W3) (W:World) (n:Nat):(Op.equalIn (n+1+1) 105 (.agg #[.int .u64 x.1,.int .u64 x.2.1,.int .u64 x.2.2]) (.agg #[.int .u64 y.1,.int .u64 y.2.1,.int .u64 y.2.2])).run Tryz.prog W=.ok (decide (x=y)) W:=by
 obtain⟨x0,x1,x2⟩:=x;obtain⟨y0,y1,y2⟩:=y;have e:decide (((x0,x1,x2):W3)=(y0,y1,y2))=(((x0:Int)==(y0:Int))&&(((x1:Int)==(y1:Int))&&((x2:Int)==(y2:Int)))):=by
  rw[Bool.eq_iff_iff,yS,Yr,Yr,beq_iff_eq,beq_iff_eq,beq_iff_eq,Prod.mk.injEq,Prod.mk.injEq];omega
 obtain⟨iu,G⟩:∃ i,Tryz.prog.info? 103=some i:=Option.isSome_iff_exists.1 (by kernel_rfl);rw[e,run_equalIn_array W (n+1) _ _ underlying105 G];simp only;have hc:Tryz.prog.cellsOf 103=1:=by kernel_rfl
 rw[hc,show List.range 3=[0,1,2]from rfl];generalize (x0:Int)=a0;generalize (x1:Int)=a1;generalize (x2:Int)=a2;generalize (y0:Int)=c0;generalize (y1:Int)=c1;generalize (y2:Int)=c2;have B:=qaj #[.int .u64 a0,.int .u64 a1,.int .u64 a2] (0*1) (.int .u64 a0) rfl;have H:=qaj #[.int .u64 a0,.int .u64 a1,.int .u64 a2] (1*1) (.int .u64 a1) rfl;have D:=qaj #[.int .u64 a0,.int .u64 a1,.int .u64 a2] (2*1) (.int .u64 a2) rfl;have F:=qaj #[.int .u64 c0,.int .u64 c1,.int .u64 c2] (0*1) (.int .u64 c0) rfl;have I:=qaj #[.int .u64 c0,.int .u64 c1,.int .u64 c2] (1*1) (.int .u64 c1) rfl;have C:=qaj #[.int .u64 c0,.int .u64 c1,.int .u64 c2] (2*1) (.int .u64 c2) rfl;have A:∀ a c:Int,(Op.equalIn (n+1) 103 (.int .u64 a) (.int .u64 c)).run Tryz.prog W=.ok (a==c) W:=λ a c=>run_equalIn_int (P:=Tryz.prog) W n 103 .u64 .u64 a c underlying103;simp only[Op.eqItems,yG,B,F,A,yz]
 cases a0==c0 <;> cases h1:a1==c1 <;> cases h2:a2==c2 <;> simp only[Bool.not_true,Bool.not_false,if_true,Yo,if_false,yH,yz,yG,H,D,I,C,A,Bool.and_true,Bool.and_false,Bool.true_and,Bool.false_and,h1,h2]
theorem zeW:∃ f0 f1 f2:Field,Tryz.prog.underlying 152=some (.struct #[f0,f1,f2])/\f0.type=50/\f1.type=103/\f2.type=105/\f0.offset=0/\f1.offset=5/\f2.offset=6/\f0.name≠ "_"/\f1.name≠ "_"/\f2.name≠ "_":=⟨_,_,_,underlying152,rfl,rfl,rfl,rfl,rfl,rfl,by decide,by decide,by decide⟩
theorem qgC (a b:HP) (W:World):(Op.equalIn 10000 152 (.agg (hpVals a).toArray) (.agg (hpVals b).toArray)).run Tryz.prog W=.ok (decide (a.ld=b.ld/\a.set=b.set/\a.bord=b.bord)) W:=by
 rw[run_equalIn_agg W 9999 152 _ _ (by kernel_rfl) (by kernel_rfl)];obtain⟨f0,f1,f2,hu,t0,t1,t2,o0,o1,o2,n0,n1,n2⟩:=zeW;have hf:(Tryz.prog.fieldsOf 152).toList=[f0,f1,f2]:=by unfold Program.fieldsOf;rw[hu]
 rw[hf];have h0:=zfI a.ld b.ld W 9996;have h2:=qiw a.bord b.bord W 9997;have h1:(Op.equalIn 9999 103 (.int .u64 a.set) (.int .u64 b.set)).run Tryz.prog W=.ok ((a.set:Int)==(b.set:Int)) W:=run_equalIn_int (P:=Tryz.prog) W 9998 103 .u64 .u64 _ _ underlying103;have p0:∀ c:HP,(part 50 (hpVals c).toArray 0).run Tryz.prog W=.ok (.agg (ldVals c.ld).toArray) W:=λ c=>by
  obtain⟨⟨k,m,t,x,y⟩,st,q0,q1,q2⟩:=c;simp[part,go_sem,hpVals,ldVals]
 have p1:∀ c:HP,(part 103 (hpVals c).toArray 5).run Tryz.prog W=.ok (.int .u64 c.set) W:=λ c=>by
  obtain⟨⟨k,m,t,x,y⟩,st,q0,q1,q2⟩:=c;exact qaj _ 5 _ rfl W
 have p2:∀ c:HP,(part 105 (hpVals c).toArray 6).run Tryz.prog W=.ok (.agg #[.int .u64 c.bord.1,.int .u64 c.bord.2.1,.int .u64 c.bord.2.2]) W:=λ c=>by
  obtain⟨⟨k,m,t,x,y⟩,st,q0,q1,q2⟩:=c;simp[part,go_sem,hpVals]
 simp only[Op.eqFields,t0,t1,t2,o0,o1,o2,n0,n1,n2,ne_eq,not_false_eq_true,if_true,yG,p0,p1,p2,h0,h1,h2,yz];by_cases k0:a.ld=b.ld
 case neg =>
  rw[yv k0,yv (λ h=>k0 h.1)];simp only[Bool.not_false,if_true,yH]
 rw[yw k0];simp only[Bool.not_true,Yo,if_false,yG,p1,h1,yz];by_cases k1:a.set=b.set
 case neg =>
  have e1:((a.set:Int)==(b.set:Int))=false:=by simp only[Yt,ne_eq];omega
  rw[e1,yv (λ h=>k1 h.2.1)];simp only[Bool.not_false,if_true,yH]
 have e1:((a.set:Int)==(b.set:Int))=true:=by rw[k1];exact beq_self_eq_true _
 rw[e1];simp only[Bool.not_true,Yo,if_false,yG,p2,h2,yz];by_cases k2:a.bord=b.bord
 case neg =>
  rw[yv k2,yv (λ h=>k2 h.2.2)];simp only[Bool.not_false,if_true,yH]
 rw[yw k2,yw ⟨k0,k1,k2⟩];simp only[Bool.not_true,Yo,if_false,yH]
theorem qcz {P:Program} {C:World->Prop} {o:Oper} {a:Act} {K:Act->Prop} (ty ty2:TypeId) (x y:Operand) (ho:o.op=.binOp .neq ty x y ty2) {xs ys:Array Value} (hx:a.eval x=.agg xs) (hy:a.eval y=.agg ys) (hm:P.eqGuardType P.depth ty=false) {b:Bool}
  (he:∀ w,C w->(Op.equalIn 10000 ty (.agg xs) (.agg ys)).run P w=.ok b w) (hk:K (a.put o.dst (.bool (!b)))):o.quiet P a C K:=by
 refine⟨.bool (!b),λ w hc=>?_,hk⟩;unfold Oper.quietAt execOp;simp only[ho,hx,hy,yG,run_eqGuard_agg (hm:=hm),yz,run_neq_struct,he w hc,yH];exact⟨rfl,rfl⟩
theorem HP.ext3 {a b:HP} (h:a.ld=b.ld/\a.set=b.set/\a.bord=b.bord):a=b:=by
 obtain⟨a1,a2,a3⟩:=a;obtain⟨b1,b2,b3⟩:=b;obtain⟨h1,h2,h3⟩:=h;simp only at h1 h2 h3;rw[h1,h2,h3]
theorem zfG (a b:List HP) (va vb:Value) (w:World) (ha:RP.Has w va a) (hb:RP.Has w vb b) (hl:a.length<=1000000) (hl2:b.length<=1000000) :
  Calls Tryz.prog 102 #[va,vb] w λ e w'=>∃ r:Bool,e=.returned (.bool r)/\(r=true↔a=b)/\Bw w w':=by
 obtain⟨pa,ca,rfl⟩:=ha.slice;obtain⟨pb,cb,rfl⟩:=hb.slice;have HA:=yK ha;clear ha;have HB:=yK hb;clear hb;by_cases hlen:a.length=b.length
 case neg =>
  have hd:((a.length:Int)==(b.length:Int))=false:=by simp only[Yt,ne_eq];omega
  have HN:=yK hlen;clear hlen;go_enter func102,ntmps102;go_wp2_with fail;go_ret;exact⟨false,rfl,⟨λ h=>(by cases h),λ h=>absurd (YB List.length h) HN.o⟩,yf _ _⟩
 case pos =>
  have hd:((a.length:Int)==(b.length:Int))=true:=by rw[hlen];exact beq_self_eq_true _
  have HN:=yK hlen;clear hlen;go_enter func102,ntmps102;go_wp2_with fail;clear hd;go_loopw [13] (λ z wr=>∃ i:Nat,i<=a.length/\z=.int .i64 i/\Hid (Bw w wr/\∀ j,j<i->a[j]?=b[j]?)) (λ z _=>a.length-(intOf z).toNat)
  case atStart=>exact⟨0,by omega,rfl,yK ⟨yf _ _,λ j hj=>absurd hj (by omega)⟩⟩
  obtain⟨i,hi,rfl,HR⟩:=hrel;by_cases hlt:i<a.length
  case neg =>
   obtain rfl:i=a.length:=(by omega);go_wp2_with fail;go_ret;refine⟨true,rfl,⟨λ _=>List.ext_getElem? λ j=>?_,λ _=>rfl⟩,HR.o.1⟩;rcases Nat.lt_or_ge j a.length with h|h
   ·exact HR.o.2 j h
   rw[List.getElem?_eq_none h,List.getElem?_eq_none (by rw[<- HN.o];exact h)]
  obtain⟨p,hp⟩:∃ p,a[i]?=some p:=⟨_,yb hlt⟩;obtain⟨q,hq⟩:∃ q,b[i]?=some q:=⟨_,yb (by rw[<- HN.o];exact hlt)⟩;obtain⟨xa,rfl,_⟩:=(HA.o.below HR.o.1).at_ (by rintro e;rw[e]at hp;simp at hp);obtain⟨xb,rfl,_⟩:=(HB.o.below HR.o.1).at_ (by rintro e;rw[e]at hq;simp at hq);have d1:∀ d:SubW wr,(Instr.loadAt 152 (.pointer (some (xa.add (i*9))))).run Tryz.prog d.1=.ok (.agg (hpVals p).toArray) d.1:=λ d=>by
   obtain⟨J,e,F⟩:=(HA.o.below (HR.o.1.tm d.2)).at_ (by rintro e;rw[e]at hp;simp at hp)
   cases e
   exact zn (P:=Tryz.prog) (R:=RP) underlying152 rfl sizeP F hp
  have d2:∀ d:SubW wr,(Instr.loadAt 152 (.pointer (some (xb.add (i*9))))).run Tryz.prog d.1=.ok (.agg (hpVals q).toArray) d.1:=λ d=>by
   obtain⟨K,e,F⟩:=(HB.o.below (HR.o.1.tm d.2)).at_ (by rintro e;rw[e]at hq;simp at hq)
   cases e
   exact zn (P:=Tryz.prog) (R:=RP) underlying152 rfl sizeP F hq
  have B:=qgC p q;have C:=yK (And.intro hp hq);clear hp hq;have L:(i:Int)<(b.length:Int):=by have:=HN.o;omega
  by_cases hpq:p.ld=q.ld/\p.set=q.set/\p.bord=q.bord
  case neg =>
   have A:∀ d:SubW wr,(Op.equalIn 10000 152 (.agg (hpVals p).toArray) (.agg (hpVals q).toArray)).run Tryz.prog d.1=.ok false d.1:=λ d=>by rw[B d.1,yv hpq]
   have H:=yK hpq;clear hpq B;go_upto_region 6 with fail;refine zg 9 (by kernel_rfl) (by kernel_rfl) ?_;simp only[yh,yj,yi,yl]
   repeat (first|((first|(go_big_quiet_want;refine qF 152 _ rfl rfl (by rintro w ⟨d,rfl⟩;exact d1 d) ?_;simp only[Act.put,yr,yF,yE];go_big_quiet_on)|(go_big_quiet_want;refine qF 152 _ rfl rfl (by rintro w ⟨d,rfl⟩;exact d2 d) ?_;simp only[Act.put,yr,yF,yE];go_big_quiet_on)|(go_big_quiet_want;refine qcz 152 _ _ _ rfl rfl rfl (by kernel_rfl) (by rintro w ⟨d,rfl⟩;exact A d) ?_;simp only[Act.put,yr,yF,yE,Bool.not_true,Bool.not_false];go_big_quiet_on)))|go_big_quiet_step (fail))
   refine wpQuiet_nil ?_;intro dq;have D:=yK (HR.o.1.tm dq.2);clear d1 d2 A HR;revert D;generalize dq.1=wu;intro D;go_wp2_with fail;go_ret;refine⟨false,rfl,⟨λ h=>(by cases h),λ h=>?_⟩,D.o⟩;have h1:=C.o.1;rw[h,C.o.2]at h1
   cases h1
   exact absurd ⟨rfl,rfl,rfl⟩ H.o
  have A:∀ d:SubW wr,(Op.equalIn 10000 152 (.agg (hpVals p).toArray) (.agg (hpVals q).toArray)).run Tryz.prog d.1=.ok true d.1:=λ d=>by rw[B d.1,yw hpq]
  have I:=yK (HP.ext3 hpq);clear hpq B;go_upto_region 6 with fail;refine zg 9 (by kernel_rfl) (by kernel_rfl) ?_;simp only[yh,yj,yi,yl]
  repeat (first|((first|(go_big_quiet_want;refine qF 152 _ rfl rfl (by rintro w ⟨d,rfl⟩;exact d1 d) ?_;simp only[Act.put,yr,yF,yE];go_big_quiet_on)|(go_big_quiet_want;refine qF 152 _ rfl rfl (by rintro w ⟨d,rfl⟩;exact d2 d) ?_;simp only[Act.put,yr,yF,yE];go_big_quiet_on)|(go_big_quiet_want;refine qcz 152 _ _ _ rfl rfl rfl (by kernel_rfl) (by rintro w ⟨d,rfl⟩;exact A d) ?_;simp only[Act.put,yr,yF,yE,Bool.not_true,Bool.not_false];go_big_quiet_on)))|go_big_quiet_step (fail))
  refine wpQuiet_nil ?_;intro dq;have G:Hid (Bw w dq.1/\∀ j,j<i+1->a[j]?=b[j]?):=yK ⟨HR.o.1.tm dq.2,λ j hj=>by
   rcases (by omega:j<i\/j=i)with h|rfl
   ·exact HR.o.2 j h
   rw[C.o.1,C.o.2,I.o]⟩
  clear d1 d2 A HR;revert G;generalize dq.1=wu;intro G;go_wp2_with fail
  go_roundw
  case rel=>exact⟨i+1,by omega,by go_num,G⟩
  case measure=>simp[intOf];omega
theorem zgy (S:HS) (a last:List HP) (vl:Value) (lb:Nat) (w:World) (ha:RP.Has w S.laid a) (hb:RP.Has w vl last) (hbox:w.heap[lb]?=some (.cells #[vl] 102 (0,0))) (hl:a.length<=1000000) (hl2:last.length<=1000000) :
  Calls Tryz.prog 101 #[.agg (hsVals S).toArray,.pointer (some ⟨lb,0,none⟩)] w λ e w'=>∃ r:Bool,e=.returned (.bool r)/\(r=true↔a=last)/\Bw w w':=by
 have hS:=yd w (.cells (hsVals S).toArray 108);have hB:Bw w (w.alloc (.cells (hsVals S).toArray 108)):=(yf _ w).alloc (ye _) _;have C:=heapO (.cells (hsVals S).toArray 108) hbox;have B:=ha.below hB;have A:=hb.below hB;clear ha hb hbox;obtain⟨sp,sn,sc,D,sb,sj,sm⟩:=S;obtain⟨lp,ln,rfl⟩:=A.slice;go_enter func101,ntmps101;go_upto_region 1 with fail;revert hS hB C B A;change _->_->_->_->_->Code.wp _ _ _ _ (w.alloc (.cells (hsVals ⟨sp,sn,sc,D,sb,sj,sm⟩).toArray 108));generalize w.alloc (.cells (hsVals ⟨sp,sn,sc,D,sb,sj,sm⟩).toArray 108)=w1;intro hS hB B C A;have HE:=yK (zfG a last _ _ w1 B A hl hl2);have HB:=yK hB;clear hB B A;have c0:w1.cell? ⟨w.heap.size,0,none⟩=some (.slice sp sn sc):=by simp only[World.cell?,hS];rfl
 have c1:w1.cell? ⟨lb,0,none⟩=some (.slice lp last.length ln):=by simp only[World.cell?,C];rfl
 clear hS C;go_wp2_with fail;refine HE.o.mono ?_;rintro e w2 ⟨r,rfl,hr,F⟩;have HR:=yK hr;clear hr;have G:=yK (HB.o.tm F);clear F HE c0 c1;go_wp2_with fail;go_ret;exact⟨r,rfl,HR.o,G.o⟩
theorem zhx (Ss:List HS) (As:List (List HP)) (v vl:Value) (last:List HP) (lb:Nat) (w:World) (h:RS.Has w v Ss) (hlen:Ss.length=As.length) (hsm:Ss.length<=20000) (hent:∀ (i:Nat) (S:HS) (a:List HP),Ss[i]?=some S->As[i]?=some a->RP.Has w S.laid a/\a.length<=64)
  (hb:RP.Has w vl last) (hl2:last.length<=1000000) (hbox:w.heap[lb]?=some (.cells #[vl] 102 (0,0))) :
  Calls Tryz.prog 100 #[v,.func (.func 101) #[] #[.pointer (some ⟨lb,0,none⟩)]] w λ e w'=>∃ r:Int,e=.returned (.int .i64 r)/\Bw w w' /\
   ((∃ i:Nat,r=i/\As[i]?=some last/\∀ j:Nat,j<i->As[j]?≠some last)\/(r=-1/\∀ j:Nat,As[j]?≠some last)):=by
 obtain⟨vp,vc,rfl⟩:=h.slice;have T:=yK h;clear h;have C:=yK hlen;clear hlen;have M:=yK hent;clear hent;have N:=yK hb;clear hb;have D:=yK hbox;clear hbox;go_enter func100,ntmps100;go_wp2_with fail;go_loopw [8] (λ z wr=>∃ k:Nat,k<=Ss.length/\z=.int .i64 k/\Hid (Bw w wr/\∀ j:Nat,j<k->As[j]?≠some last)) (λ z _=>Ss.length-(intOf z).toNat)
 case atStart=>exact⟨0,YC _,rfl,yK ⟨yf _ _,λ j hj=>absurd hj (by omega)⟩⟩
 case round =>
  obtain⟨k,hk,rfl,HR⟩:=hrel;by_cases hlt:k<Ss.length
  case pos =>
   obtain⟨S,hS⟩:∃ S,Ss[k]?=some S:=⟨_,yb hlt⟩;obtain⟨a,ha⟩:∃ a,As[k]?=some a:=⟨_,yb (by rw[<- C.o];exact hlt)⟩;obtain⟨xa,rfl,G⟩:=(T.o.below HR.o.1).at_ (by rintro e;rw[e]at hlt;simp at hlt);have I:(Instr.loadAt 108 (.pointer (some (xa.add (k*16))))).run Tryz.prog wr=.ok (.agg (hsVals S).toArray) wr:=zn (P:=Tryz.prog) (R:=RS) underlying108 rfl sizeS G hS;obtain⟨H,O⟩:=M.o k S a hS ha;have HF:=yK (zgy S a last vl lb wr (H.below HR.o.1) (N.o.below HR.o.1) ((HR.o.1.block _ (ya.1 D.o).1).trans D.o) (by omega) hl2);have F:=yK ha;clear ha G H O hS;go_wp2_with (refine qo rfl 108 _ rfl rfl I ?_);refine HF.o.mono ?_;rintro e w1 ⟨r,rfl,hr,J⟩;have B:=yK (HR.o.1.tm J);clear J HF I;have A:=yK hr;clear hr
   cases r with
   | true =>
    have L:Hid (a=last):=yK (A.o.1 rfl);clear A;go_wp2_with fail;go_ret;exact⟨(k:Int),rfl,B.o,.inl ⟨k,rfl,by rw[F.o,L.o],HR.o.2⟩⟩
   | false =>
    have K:Hid (a≠last):=yK λ h=>absurd (A.o.2 h) (by decide);clear A;go_wp2_with fail
    go_roundw
    case rel =>
     refine⟨k+1,by omega,by go_num,yK ⟨B.o,λ j hj=>?_⟩⟩;rcases (by omega:j<k\/j=k)with h|rfl
     ·exact HR.o.2 j h
     rw[F.o];exact λ h=>K.o (Option.some.inj h)
    case measure=>simp only[intOf];omega
  obtain rfl:k=Ss.length:=by omega
  go_wp2_with fail;go_ret;refine⟨-1,rfl,HR.o.1,.inr ⟨rfl,λ j h=>?_⟩⟩;exact HR.o.2 j (by rw[C.o];exact (yc.1 h).1) h
theorem qh8 {t:Tk} {L:List E} {x y:List Pc} (hx:∀ p∈x,p∈(piecesT t).flatten) (hy:∀ p∈y,p∈(piecesT t).flatten) (h:x.map (hpT t.ground L)=y.map (hpT t.ground L)):x=y:=by
 refine zij hx hy ?_;have:=YB (List.map (·.ld)) h;rw[List.map_map,List.map_map]at this;exact this
theorem zc7 {t:Tk} {L:List E} {Ts:List (List Pc)} {x:List Pc} (hm:∀ T∈Ts,∀ p∈T,p∈(piecesT t).flatten) (hx:∀ p∈x,p∈(piecesT t).flatten) (j:Nat):(Ts.map λ T=>T.map (hpT t.ground L))[j]?=some (x.map (hpT t.ground L))↔Ts[j]?=some x:=by
 rw[yQ];constructor
 ·intro h
  cases hT:Ts[j]? with
  | none=>rw[hT]at h;cases h
  | some T =>
   rw[hT]at h;simp only[Option.map_some,yo]at h;rw[qh8 (hm T (yg hT)) hx h]
 intro h;rw[h];rfl
theorem qgW {Ts:List (List Pc)} {x:List Pc} {i:Nat} (h:Ts[i]?=some x) (hn:∀ j:Nat,j<i->Ts[j]?≠some x):Ts.findIdx? (λ y=>decide (y=x))=some i:=by
 obtain⟨hi,rfl⟩:=yc.1 h;rw[List.findIdx?_eq_some_iff_getElem];refine⟨hi,by simp,λ j hj=>?_⟩;simp only[yS];intro e;exact hn j hj (by rw[yb (by omega),e])
theorem qeK {Ts:List (List Pc)} {x:List Pc} (hn:∀ j:Nat,Ts[j]?≠some x):Ts.findIdx? (λ y=>decide (y=x))=none:=by
 rw[List.findIdx?_eq_none_iff];intro y hy;obtain⟨j,hj⟩:=yV hy;simp only[decide_eq_false_iff_not];rintro rfl;exact hn j hj
theorem qgx {t:Tk} {L:List E} (ho:OkT t) (ok:TkOk t L) (w:World) (bb:Nat) (bv:BV) (hbd:BdAt w bb bv t L (pcsT t L) (belT t L)) (htb:TbAt w) (hroot:RootOk t L bb bv w)
  (x:List Pc) (hx0:x≠[]) (hxm:∀ p∈x,p∈(piecesT t).flatten) (hx64:x.length<=64) (vl:Value) (hv:RP.Has w vl (x.map (hpT t.ground L))) :
  Calls Tryz.prog 48 #[.pointer (some ⟨bb,0,none⟩),vl] w λ e w'=>∃ v,e=.returned (.tuple #[v,.int .i64 (nextT t x).2])/\RL.Own w' w.heap.size v (nextT t x).1/\Bw w w':=by
 have A7:∀ s,rootT t=some s->GoodT t s:=λ s hs=>za2 hs;obtain⟨la,ln,rfl⟩:∃ la ln,vl=.slice (some la) (x.map (hpT t.ground L)).length ln:=by
  rcases hv with⟨_,h⟩|⟨a,c,h,_⟩
  ·exact absurd (List.map_eq_nil_iff.1 h) hx0
  exact⟨a,c,h⟩
 rw[yB]at hv ⊢;have C:Bw w (w.alloc (.cells #[.slice (some la) x.length ln] 102)):=(yf _ w).alloc (ye _) _;have I:=yd w (.cells #[.slice (some la) x.length ln] 102);have A6:(w.alloc (.cells #[.slice (some la) x.length ln] 102)).heap.size=w.heap.size+1:=yp _ _;have G:=yK (qaN ho ok _ bb bv (hbd.keep C) (htb.below C) (hroot.below C));have X:=yK (zaz t);have N:=yK (λ T h=>zbr (T:=T) ok h A7);have H:Hid (∀ T∈(tilingsT t).1,∀ p∈T,p∈(piecesT t).flatten):=yK λ T hT=>(qeb ho hT).good.mem;have F:Hid (nextT t x=if (tilingsT t).2.2≠0 then ([],(tilingsT t).2.2)else match (tilingsT t).1[match (tilingsT t).1.findIdx? (λ y=>decide (y=x))with|some i=>i+1|none=>0]? with|none=>([],7)|some y=>(y.map (·.ld),0)):=yK rfl;have B0:=yK hv;clear hv;have b:=yK hxm;clear hxm;clear ho ok A7 hbd htb hroot hx0;revert G X N H F;generalize tilingsT t=R;obtain⟨Ts,nn,J⟩:=R;simp only;intro G X N H F;obtain⟨fl,z⟩:∃ fl,nextT t x=fl:=⟨_,rfl⟩;rw[z]at F ⊢;clear z;obtain⟨fl,fc⟩:=fl;go_enter func48,ntmps48;go_wp2_with fail;revert G I C A6;generalize w.alloc (.cells #[.slice (some la) x.length ln] 102)=w1;intro C I A6 G;refine G.o.mono ?_;rintro e w2 ⟨v,rfl,f,d⟩;obtain⟨vp,vc,rfl⟩:=f.slice;have Z:=(d.block _ (ya.1 I).1).trans I;have n:=C.tm d;have k:=yK f;clear f;have l:=yK n;have B9:=n.size;clear C d I n G;by_cases hc:J=0
 case neg =>
  have hb:((J:Int) != 0)=true:=by simpa using hc
  have HF:Hid ((fl,fc)=([],J)):=yK (by rw[F.o,YA hc]);go_wp2_with fail;go_ret2;have h:=HF.o;simp only[Prod.mk.injEq]at h;obtain⟨rfl,rfl⟩:=h;exact⟨_,rfl,RL.own_nil _ _,l.o⟩
 case pos =>
  subst hc;have c3:w2.cell? ⟨w.heap.size,0,none⟩=some (.slice (some la) x.length ln):=by simp[World.cell?,Z]
  have B5:(binOp .neq 102 (.slice (some la) x.length ln) (.slice none 0 0)).run Tryz.prog w2=.ok (.bool true) w2:=by kernel_rfl
  obtain⟨Ss,M,A,B⟩:=k.o;have B7:Ts.length<=20000:=X.o.1;have A4:=yK (zhx Ss (Ts.map λ T=>T.map (hpT t.ground L)) (.slice vp Ts.length vc) (.slice (some la) x.length ln) (x.map (hpT t.ground L)) w.heap.size w2 (REnc.Own.has M) (by rw[yB];exact A) (by omega)
   (λ i S a hS ha=>by
    rw[yQ]at ha
    cases hT:Ts[i]? with
    | none=>rw[hT]at ha;cases ha
    | some T =>
     rw[hT]at ha;simp only[Option.map_some,yo]at ha;subst ha;exact⟨(B i S T hS hT).2.has,by rw[yB];exact N.o T (yg hT)⟩)
   (B0.o.below l.o) (by rw[yB];omega) Z)
  clear B M A;go_wp2_with fail;refine A4.o.mono ?_;rintro e w3 ⟨r,rfl,g,hr⟩;have B2:=yK (k.o.below g);have Y:=yK (l.o.tm g);clear g A4 k B5 c3 Z;obtain⟨m,B4,B8,V⟩:∃ m:Nat,r=(m:Int)-1/\m<=20001/\((fl,fc)=match Ts[m]? with|none=>([],7)|some y=>(y.map (·.ld),0)):=by
   have K:=F.o;rw[Yz (by decide)]at K;rcases hr with⟨i,rfl,h1,h2⟩|⟨rfl,h2⟩
   ·have k1:=(zc7 H.o b.o i).1 h1;have k2:∀ j:Nat,j<i->Ts[j]?≠some x:=λ j hj h=>h2 j hj ((zc7 H.o b.o j).2 h);rw[qgW k1 k2]at K;exact⟨i+1,by omega,by have:=(yc.1 k1).1;omega,K⟩
   rw[qeK λ j h=>h2 j ((zc7 H.o b.o j).2 h)]at K;exact⟨0,by omega,by omega,K⟩
  subst B4;have D:=yK V;clear V hr F;have C0:(1:Int)+((m:Int)-1)=m:=by omega
  have C1:IntKind.i64.wrap (m:Int)=m:=by rw[IntKind.wrap_i64];omega
  have W:w.heap.size<=w3.heap.size:=Y.o.size;by_cases hlt:m<Ts.length
  case neg =>
   have hd:decide ((Ts.length:Int)<=(m:Int))=true:=yw (by omega);have HF:Hid ((fl,fc)=([],7)):=yK (by rw[D.o,List.getElem?_eq_none (by omega)]);clear D;go_wp2_with fail;go_ret2;have h:=HF.o;simp only[Prod.mk.injEq]at h;obtain⟨rfl,rfl⟩:=h;exact⟨_,rfl,RL.own_nil _ _,Y.o⟩
  have hd:decide ((Ts.length:Int)<=(m:Int))=false:=yv (by omega);obtain⟨T,hT⟩:∃ T,Ts[m]?=some T:=⟨_,yb hlt⟩;have HF:Hid ((fl,fc)=(T.map (·.ld),0)):=yK (by rw[D.o,hT]);clear D;obtain⟨B1,M,A,B⟩:=B2.o;obtain⟨S,hS⟩:∃ S,B1[m]?=some S:=⟨_,yb (by rw[A];exact hlt)⟩;obtain⟨A9,O⟩:=B m S T hS hT;have U:=REnc.Own.has M;obtain⟨xa,A8,A1⟩:=U.at_ (by rintro e;rw[e]at hS;simp at hS);subst A8;have A2:(Instr.loadAt 108 (.pointer (some (xa.add (m*16))))).run Tryz.prog w3=.ok (.agg (hsVals S).toArray) w3:=zn (P:=Tryz.prog) (R:=RS) underlying108 rfl sizeS A1 hS;have q:=zci S (T.map (hpT t.ground L)) w3 O.has (by rw[yB];have:=N.o T (yg hT);omega);have A0:=yK q;clear q;have HM:Hid (T.map (·.ld)=(T.map (hpT t.ground L)).map (·.ld)):=yK (by rw[List.map_map];rfl);clear A9 O U A1 B M A hS hT;go_wp2_with (refine qo rfl 108 _ rfl rfl A2 ?_);refine A0.o.mono ?_;rintro e w4 ⟨v,rfl,A5,A3⟩;have B6:=yK A5;clear A5;have B3:=yK A3;clear A3;clear A0 A2;go_wp2_with fail;go_ret2;have h:=HF.o;simp only[Prod.mk.injEq]at h;obtain⟨rfl,rfl⟩:=h;refine⟨_,rfl,?_,Y.o.trans (B3.o.mono W)⟩;rw[HM.o];exact qU B6.o W
theorem qix {t:Tk} (ho:OkT t) {x:List Pc} (h:TlT t x):x≠[]:=by
 rintro rfl;obtain⟨q,hq⟩:=List.exists_mem_of_ne_nil _ (qh ho.ground).2.1;have:=(qcW ho h.good h.full q).2 hq;simp at this
theorem zef {g:List Q} (hl:g.length*24<=140737488351232) (W:World) (gp:Option Addr) (gc:Nat) (hv:HasQ W (.slice gp g.length gc) g) :
  ∃ vg W2,(Builtin.append_ #[22,22] 22 #[.slice (some ⟨W.heap.size,0,none⟩) 0 0,.slice gp g.length gc]).run Tryz.prog (W.alloc (.cells #[] 56))=.ok vg W2/\OwnQ W2 W.heap.size vg g/\Bw W W2:=by
 obtain⟨iQ,D,F,C,G⟩:=info_parts infoQ;have A:(W.alloc (.cells #[] 56)).ownsRow W.heap.size 56 3 (.slice (some ⟨W.heap.size,0,none⟩) 0 0) 0 []:=⟨rfl,.inr ⟨W.heap.size,0,#[],rfl,ye _,yd W _,ye _,by decide,rfl,rfl⟩⟩;have B:Bw W (W.alloc (.cells #[] 56)):=(yf _ W).alloc (ye _) _;rcases hv with⟨h1,h2⟩|⟨a,cap,h1,h2,h3,h4⟩
 ·subst h2;simp only[yC,yN,true_and]at h1;obtain⟨rfl,rfl⟩:=h1;exact⟨_,_,run_append_nil _ _,A,B⟩
 ·simp only[yC,true_and]at h1;obtain⟨rfl,rfl⟩:=h1;obtain⟨v',W',hr,ho,hg,_,_⟩:=run_append_own_at (P:=Tryz.prog) (W.alloc (.cells #[] 56)) W.heap.size 22 22 56 iQ _ 3 24 underlying22 D F C G rfl (by decide) (.slice (some ⟨W.heap.size,0,none⟩) 0 0) 0 [] A a g.length gc (qCells g) (zcm g) (zbq (h4.below B)) (λ u hu=>by
   obtain⟨q,_,hq⟩:=List.mem_flatMap.1 hu;exact qav q u hq) (by simp only[maxLen];omega) (by omega) (by rw[yp];omega)
  exact⟨v',W',hr,by simpa using ho,B.grown hg (by rw[yp];omega) λ b e=>by simp only[Value.ownBlock,yo]at e;omega⟩
def NextPost (t:Tk) (l:List Ld) (w:World) (e:Ending) (w':World):Prop:=∃ (u:Value) (code:Nat),e=.returned (.tuple #[u,.int .i64 code])/\Bw w w' /\
 ((u=.slice none 0 0/\((¬ OkT t/\code=2)\/(OkT t/\16<l.length/\code=5)\/(OkT t/\l.length<=16/\coversT t l≠(0,0)/\code=9))) \/
  (OkT t/\l.length<=16/\coversT t l=(0,0)/\RL.Own w' w.heap.size u (nextT t (parts t l)).1/\code=(nextT t (parts t l)).2))
theorem zhN {t:Tk} (w:World) (vg vk vc vf vb v:Value) (hg:HasQ w vg t.ground) (hk:HasQQ w vk t.kinds) (hc:RI.Has w vc t.counts) (hcf:flatV vc) (hf:RL.Has w vf t.fixed) (hb:RE.Has w vb t.below) (hcl:t.counts.length<=1000) (hbl:t.below.length<=1000000) (htb:TbAt w) (l:List Ld) (hll:l.length<=1000000) (hv:RL.Has w v l) :
  Calls Tryz.prog 28 #[.agg #[vg,vk,vc,vf,vb],v] w (NextPost t l w):=by
 obtain⟨gp,gc,rfl⟩:=hg.slice;obtain⟨kp,kc,rfl⟩:=hk.slice;obtain⟨cp,cc,rfl⟩:=hc.slice;obtain⟨fp,fc,rfl⟩:=hf.slice;obtain⟨bp,bc,rfl⟩:=hb.slice;obtain⟨vp,vq,rfl⟩:=hv.slice;have R:Hid (∀ W,Bw w W->Calls Tryz.prog 54 #[.agg #[.slice gp t.ground.length gc,.slice kp t.kinds.length kc,.slice cp t.counts.length cc,.slice fp t.fixed.length fc,.slice bp t.below.length bc],.slice vp l.length vq] W (qdQ t l (.slice bp t.below.length bc) W)):=yK λ W h=>zgJ W _ _ _ _ _ _ (hg.below h) (hk.below h) (hc.below h) hcf (hf.below h) (hb.below h) hcl hbl (htb.below h) l hll (hv.below h);have Z:=yK htb;clear htb hg hk hc hcf hf hb hv;have hT:=yd w (.cells #[.slice gp t.ground.length gc,.slice kp t.kinds.length kc,.slice cp t.counts.length cc,.slice fp t.fixed.length fc,.slice bp t.below.length bc] 34);have hB:Bw w (w.alloc (.cells #[.slice gp t.ground.length gc,.slice kp t.kinds.length kc,.slice cp t.counts.length cc,.slice fp t.fixed.length fc,.slice bp t.below.length bc] 34)):=(yf _ w).alloc (ye _) _;have V:(Tryz.prog.info? 34).map (·.size)=some (#[.slice gp t.ground.length gc,.slice kp t.kinds.length kc,.slice cp t.counts.length cc,.slice fp t.fixed.length fc,.slice bp t.below.length bc]:Array Value).size:=sizeTask;go_enter func28,ntmps28;go_upto_region 1 with fail;revert hT hB;change _->_->Code.wp _ _ _ _ (w.alloc (.cells #[.slice gp t.ground.length gc,.slice kp t.kinds.length kc,.slice cp t.counts.length cc,.slice fp t.fixed.length fc,.slice bp t.below.length bc] 34));generalize w.alloc (.cells #[.slice gp t.ground.length gc,.slice kp t.kinds.length kc,.slice cp t.counts.length cc,.slice fp t.fixed.length fc,.slice bp t.below.length bc] 34)=w1;intro hT hB;have HB:=yK hB;clear hB;go_wp2_with (refine Yb rfl 34 _ rfl w.heap.size rfl 34 #[.slice gp t.ground.length gc,.slice kp t.kinds.length kc,.slice cp t.counts.length cc,.slice fp t.fixed.length fc,.slice bp t.below.length bc] (0,0) _ hT underlying34 rfl V ?_);refine (R.o w1 HB.o).mono ?_;rintro e w2 ⟨T,M⟩;have N:=yK (HB.o.tm T);have f:w.heap.size<=w1.heap.size:=HB.o.size;clear hT T HB V R;rcases M with⟨C,rfl,O⟩|⟨bb,bv,L,S,rfl,hok,hlen,hcv,hbd,hL,hSt,hown,_⟩
 case inl =>
  have c:=yK O;have hb:((C:Int) != 0)=true:=by
   have:C≠0:=by rcases O with⟨_,h⟩|⟨_,_,h⟩|⟨_,_,_,h⟩ <;> omega
   simpa using this
  have G:(Tryz.prog.info? 108).map (·.size)=some (hsVals zeroS).toArray.size:=sizeS;have B:(hsVals zeroS).toArray.all (·.oneCell')=true:=by simp[hsVals,zeroS,Value.oneCell']
  have X:Bw w ((w2.alloc (.cells (hsVals zeroS).toArray 108))):=N.o.alloc N.o.size _;have b:=yK X;clear X O;go_wp2_with (refine wpList_store_row rfl 108 _ _ rfl w2.heap.size rfl 108 _ (hsVals zeroS).toArray rfl (yd w2 _) G rfl B ?_;rw[World.setRow_alloc_new]);go_ret2;exact⟨_,C,rfl,b.o,.inl ⟨rfl,c.o⟩⟩
 case inr =>
  obtain⟨A,Y⟩:=qe1 hok hcv;obtain⟨x,hx⟩:∃ x,parts t l=x:=⟨_,rfl⟩;rw[hx]at A hown hSt;have HX:=yK hx;clear hx Y;have P:=qix hok A.toTlT;have d:=zeI hok A.toTlT;have G:(Tryz.prog.info? 108).map (·.size)=some (hsVals S).toArray.size:=sizeS;have B:(hsVals S).toArray.all (·.oneCell')=true:=by simp[hsVals,Value.oneCell']
  have J:Bw w2 (w2.alloc (.cells (hsVals S).toArray 108)):=(yf _ w2).alloc (ye _) _;have I:=yd w2 (.cells (hsVals S).toArray 108);have D:=yK (N.o.tm J);have H:=yK (qgx hok (qR hok hL) _ bb bv (hbd.keep J) (Z.o.below D.o) (λ W' hb' _=>zba (qR hok hL) W' bb bv hb') x P A.good.mem (by omega) S.laid (REnc.Own.has (qf hown J)));have F:Hid (OkT t/\l.length<=16/\coversT t l=(0,0)):=yK ⟨hok,hlen,hcv⟩;clear hok hlen hcv hbd hL hSt hown A P d J;obtain⟨sp,sn,sc,K,sb,sj,sm⟩:=S;go_upto_region 2 with (refine wpList_store_row rfl 108 _ _ rfl w2.heap.size rfl 108 _ (hsVals ⟨sp,sn,sc,K,sb,sj,sm⟩).toArray rfl (yd w2 _) G rfl B ?_;rw[World.setRow_alloc_new]);revert I D H;change _->_->_->Code.wp _ _ _ _ (w2.alloc (.cells (hsVals ⟨sp,sn,sc,K,sb,sj,sm⟩).toArray 108));generalize w2.alloc (.cells (hsVals ⟨sp,sn,sc,K,sb,sj,sm⟩).toArray 108)=w3;intro I D H;have c0:w3.cell? ⟨w2.heap.size,0,none⟩=some (.slice sp sn sc):=by simp only[World.cell?,I];rfl
  clear I G B;go_wp2_with fail;refine H.o.mono ?_;rintro e w4 ⟨u,rfl,hu,U⟩;have a:=yK (D.o.tm U);have HU:=yK (qU hu (show w.heap.size<=w3.heap.size from D.o.size));clear U hu H c0;go_wp2_with fail;go_ret2;refine⟨u,_,rfl,a.o,.inr ⟨F.o.1,F.o.2.1,F.o.2.2,?_,?_⟩⟩
  ·rw[HX.o];exact HU.o
  rw[HX.o]
theorem zeU (S:HS) (J:W3) (hS:okW S.joint) (hJ:okW J) (w:World) :
  Calls Tryz.prog 74 #[.agg (hsVals S).toArray,w3V J] w λ e w'=>e=.returned (.bool (decide (andW S.joint J=(0,0,0))))/\Bw w w':=by
 obtain⟨sp,sn,sc,B,sb,⟨s0,s1,s2⟩,sm⟩:=S;obtain⟨j0,j1,j2⟩:=J;simp only at hS ⊢;have A:Hid (∀ W,Calls Tryz.prog 75 #[w3V (s0,s1,s2),w3V (j0,j1,j2)] W λ e w'=>e=.returned (w3V (andW (s0,s1,s2) (j0,j1,j2)))/\Grew W w'):=yK λ W=>both_any (s0,s1,s2) (j0,j1,j2) hS hJ W;obtain⟨⟨z0,z1,z2⟩,hz⟩:∃ z,andW (s0,s1,s2) (j0,j1,j2)=z:=⟨_,rfl⟩;rw[hz]at A ⊢;obtain⟨r,hr⟩:∃ r,decide (((z0,z1,z2):W3)=(0,0,0))=r:=⟨_,rfl⟩;have D:=yK hr;rw[hr];clear hz hS hJ hr;have ha:=qP w (.cells (hsVals ⟨sp,sn,sc,B,sb,(s0,s1,s2),sm⟩).toArray 108) (.cells #[.int .u64 j0,.int .u64 j1,.int .u64 j2] 105);unfold w3V at A ⊢;simp only at A ⊢;go_enter func74,ntmps74;go_upto_region 1 with fail;revert ha;change _->Code.wp _ _ _ _ ((w.alloc (.cells (hsVals ⟨sp,sn,sc,B,sb,(s0,s1,s2),sm⟩).toArray 108)).alloc (.cells #[.int .u64 j0,.int .u64 j1,.int .u64 j2] 105));generalize (w.alloc (.cells (hsVals ⟨sp,sn,sc,B,sb,(s0,s1,s2),sm⟩).toArray 108)).alloc (.cells #[.int .u64 j0,.int .u64 j1,.int .u64 j2] 105)=w1;rintro⟨hA,hB,hb⟩;have c5:w1.cell? ⟨w.heap.size,5,none⟩=some (.int .u64 s0):=by simp only[World.cell?,hA];rfl
 have c6:w1.cell? ⟨w.heap.size,6,none⟩=some (.int .u64 s1):=by simp only[World.cell?,hA];rfl
 have c7:w1.cell? ⟨w.heap.size,7,none⟩=some (.int .u64 s2):=by simp only[World.cell?,hA];rfl
 have d0:w1.cell? ⟨w.heap.size+1,0,none⟩=some (.int .u64 j0):=by simp only[World.cell?,hB];rfl
 have d1:w1.cell? ⟨w.heap.size+1,1,none⟩=some (.int .u64 j1):=by simp only[World.cell?,hB];rfl
 have d2:w1.cell? ⟨w.heap.size+1,2,none⟩=some (.int .u64 j2):=by simp only[World.cell?,hB];rfl
 have C:=yK hb;clear hA hB hb;go_wp2_with fail;refine (A.o _).mono ?_;rintro e w4 ⟨rfl,hg⟩;have F:=yK (C.o.tm hg.below);clear hg;have G:(Op.equalIn 10000 105 (.agg #[.int .u64 z0,.int .u64 z1,.int .u64 z2]) (.agg #[.int .u64 0,.int .u64 0,.int .u64 0])).run Tryz.prog w4=.ok r w4:=by
  rw[<- D.o];exact qbv (z0,z1,z2) (0,0,0) w4
 clear A c5 c6 c7 d0 d1 d2;go_wp2_with fail;go_ret;exact⟨rfl,F.o⟩
theorem OwnPP.but2 {W W':World} {base bb:Nat} {pv:Value} {vs:List Value} {ps:List (List HP)} (h:OwnPP W base pv vs ps) (e:BelowBut W.heap.size bb W W') {cs:Array Value} (hb:W.heap[bb]?=some (.cells cs 150 (0,0))):OwnPP W' base pv vs ps:=by
 have mv:∀ {T:TypeId} {n m:Nat} {u:Value} {xs:List Value},T≠150->W.ownsRow base T n u m xs->W'.ownsRow base T n u m xs:=λ hT ho=>qj ho λ k hk=>by
  obtain⟨_,hkl,cur,hc⟩:=qg ho hk;refine e.block k hkl λ e'=>?_;rw[e',hb]at hc;simp only[yo,Yh]at hc;exact hT hc.2.1.symm
 exact⟨mv (by decide) h.own,h.len,λ i u l hu hl=>mv (by decide) (h.each i u l hu hl),h.apart⟩
theorem qcE {B bb:Nat} {w W W':World} (h:Below B w W) (hb:B<=bb) (hB:B<=W.heap.size) (e:BelowBut W.heap.size bb W W'):Below B w W' :=
 ⟨e.os.trans h.os,e.tape.trans h.tape,e.output.trans h.output,yJ h.size e.size,λ b hbb=>(e.block b (yO hbb hB) (by omega)).trans (h.block b hbb)⟩
theorem BdAt.free {W W':World} {bb base:Nat} {bv:BV} {t:Tk} {L:List E} {bel:W3} {vg vk vc vf vb:Value} (h:BdAt W bb bv t L (pcsT t L) bel) (ho:BvOwn W base bv vg vk vc vf vb (pcsT t L)) (e:BelowBut W.heap.size bb W W')
  (hblk:BbAt W' bb bv.g bv.k bv.c bv.f bv.b bv.qm bv.em bv.pv (belT (withB t []) L) (2 ^ t.ground.length-1)) (hg:HasQ W' vg t.ground) (hk:HasQQ W' vk t.kinds) (hc:RI.Has W' vc t.counts) (hf:RL.Has W' vf t.fixed) (hb:RE.Has W' vb t.below) :
  BdAt W' bb bv (withB t []) L (pcsT (withB t []) L) (belT (withB t []) L):=by
 have A:∀ {k:Nat} {es:Array MapEntry} {n:Nat},W.heap[k]?=some (.map es n)->k≠bb:=λ hm e'=>by
  rw[e',h.blk]at hm;cases hm
 refine⟨hblk,by rw[ho.g];exact hg,by rw[ho.k];exact hk,by rw[ho.c];exact hc,by rw[ho.f];exact hf,by rw[ho.b];exact⟨_,hb⟩,?_,?_,(ho.pp.but2 e h.blk).has,h.cflat⟩
 ·exact (e.block _ h.quarter.lt (A h.quarter)).trans h.quarter
 ·exact (e.block _ h.edge.lt (A h.edge)).trans h.edge
theorem qfB (v:Value) (p:Option Addr) (n:Nat) (c:Nat) (hv:v=.slice p n c) (w:World) :
  Calls Tryz.prog 78 #[v] w λ e w'=>e=.returned (.bool (decide (16<n)))/\w'=w:=by
 subst hv;go_enter func78,ntmps78;go_wp2_with fail;go_ret;exact⟨by rw[show decide (16<n)=decide ((16:Int)<(n:Int))by rw[decide_eq_decide];omega];rfl,rfl⟩
theorem qhE (ps:List (List Ld)) (vs:List Value) (base:Nat) (v:Value) (w:World) (h:OwnLs RL 31 w base v vs ps) (hl:ps.length<=1000000) :
  Calls Tryz.prog 114 #[v,.func (.func 78) #[] #[]] w λ e w'=>∃ r:Int,e=.returned (.int .i64 r)/\decide (0<=r)=longP ps/\w'=w:=by
 obtain⟨vp,vc,rfl⟩:=zf h.own;have HV:=yK h;clear h;generalize C:(λ (e:Ending) (w':World)=>∃ r:Int,e=.returned (.int .i64 r)/\decide (0<=r)=longP ps/\w'=w)=Po;have D:=yK C;clear C;go_enter func114,ntmps114;go_wp2_with fail;go_loopw [8] (λ z wr=>∃ k:Nat,k<=ps.length/\z=.int .i64 k/\Hid (longP (ps.take k)=false/\wr=w)) (λ z _=>ps.length-(intOf z).toNat)
 case atStart=>exact⟨0,YC _,rfl,yK ⟨rfl,rfl⟩⟩
 case round =>
  obtain⟨k,hk,rfl,HR⟩:=hrel;have e:=HR.o.2;subst e;by_cases hlt:k<ps.length
  ·obtain⟨l,hl⟩:∃ l,ps[k]?=some l:=⟨_,yb hlt⟩;obtain⟨g,c,u,B,hu,c0,A⟩:=HV.o.at hl;simp only[yC,true_and]at B;obtain⟨rfl,rfl⟩:=B;obtain⟨up,uc,rfl⟩:=zf A;rw[zJ]at c0;have HS:Hid (longP (ps.take (k+1))=decide (16<l.length)):=yK (by
    rw[zl hl];have h0:=HR.o.1;unfold longP at h0 ⊢;rw[List.any_append,h0,Bool.false_or];simp)
   have HM:Hid (decide (16<l.length)=true->longP ps=true):=yK λ h=>by
    unfold longP;rw[List.any_eq_true];exact⟨l,yg hl,h⟩
   have HF:=yK (qfB (.slice up l.length uc) up l.length uc rfl wr);clear hl hu A;go_wp2_with fail;refine HF.o.mono ?_;rintro e w1 ⟨rfl,rfl⟩;clear HF;revert HS HM;generalize decide (16<l.length)=b;intro HS HM
   cases b with
   | true =>
    have HB:=yK (HM.o rfl);go_wp2_with fail;rw[<- D.o];exact⟨k,rfl,by rw[HB.o];exact yw (by omega),rfl⟩
   | false =>
    go_wp2_with fail
    go_roundw
    case rel=>exact⟨k+1,by omega,by go_num,yK ⟨HS.o,by trivial⟩⟩
    case measure=>simp only[intOf];omega
  obtain rfl:k=ps.length:=by omega
  have HB:Hid (longP ps=false):=yK (by have:=HR.o.1;rwa [Yd]at this);go_wp2_with fail;rw[<- D.o];exact⟨-1,rfl,by rw[HB.o];rfl,rfl⟩
theorem qe3 (ps:List (List Ld)) (vs:List Value) (base:Nat) (v:Value) (w:World) (h:OwnLs RL 31 w base v vs ps) (hl:ps.length<=1000000) :
  Calls Tryz.prog 77 #[v,.func (.func 78) #[] #[]] w λ e w'=>e=.returned (.bool (longP ps))/\w'=w:=by
 have HI:=yK (qhE ps vs base v w h hl);clear h;go_enter func77,ntmps77;go_wp2_with fail;refine HI.o.mono ?_;rintro e w' ⟨r,rfl,hr,rfl⟩;clear HI;have HR:=yK hr;clear hr;go_wp2_with fail;go_ret;exact⟨by rw[<- HR.o];rfl,rfl⟩
def VerPost (t:Tk) (ps:List (List Ld)) (w:World) (e:Ending) (w':World):Prop :=
 ∃ (r:Int) (n a code:Nat),e=.returned (.tuple #[.int .i64 r,.int .i64 n,.int .i64 a,.int .i64 code])/\Bw w w'/\(¬ OkT t->r=0/\n=0/\a=0/\code=2) /\
  (OkT t->(5<ps.length\/longP ps=true)->r=0/\n=0/\a=0/\code=5)/\(OkT t->ps.length<=5->longP ps=false->code=0/\∃ L,LOk t.ground L/\VerP t L 0 t.below ps r n a)
theorem zaG {fn:Func} {p q r s:Tmp} (h:fn.results=#[.tmp p,.tmp q,.tmp r,.tmp s]) (tmps:Array Value) (w:World) (x y z u:Value) (hp:tmps.getD p undef=x) (hq:tmps.getD q undef=y) (hr:tmps.getD r undef=z) (hs:tmps.getD s undef=u):(results fn tmps).run Tryz.prog w=.ok (.tuple #[x,y,z,u]) w:=by
 have hp':tmps[p]?.getD undef=x:=by simpa using hp
 have hq':tmps[q]?.getD undef=y:=by simpa using hq
 have hr':tmps[r]?.getD undef=z:=by simpa using hr
 have hs':tmps[s]?.getD undef=u:=by simpa using hs
 simp[results,h,hp',hq',hr',hs']
theorem BdAt.over {W W':World} {bb base:Nat} {bv:BV} {t:Tk} {L:List E} {bel:W3} {vg vk vc vf vb v:Value} (h:BdAt W bb bv t L (pcsT t L) bel) (ho:BvOwn W base bv vg vk vc vf vb (pcsT t L)) (e:BelowBut W.heap.size bb W W')
  (hblk:BbAt W' bb bv.g bv.k bv.c bv.f v bv.qm bv.em bv.pv bel (2 ^ t.ground.length-1)) (hg:HasQ W' vg t.ground) (hk:HasQQ W' vk t.kinds) (hc:RI.Has W' vc t.counts) (hf:RL.Has W' vf t.fixed) (hb:∃ js,RE.Has W' v js) :
  BdAt W' bb { bv with b:=v } t L (pcsT t L) bel:=by
 have A:∀ {k:Nat} {es:Array MapEntry} {n:Nat},W.heap[k]?=some (.map es n)->k≠bb:=λ hm e'=>by
  rw[e',h.blk]at hm;cases hm
 refine⟨hblk,by rw[show ({ bv with b:=v }:BV).g=bv.g from rfl,ho.g];exact hg,by rw[show ({ bv with b:=v }:BV).k=bv.k from rfl,ho.k];exact hk,by rw[show ({ bv with b:=v }:BV).c=bv.c from rfl,ho.c];exact hc,by rw[show ({ bv with b:=v }:BV).f=bv.f from rfl,ho.f];exact hf,hb,?_,?_,(ho.pp.but2 e h.blk).has,h.cflat⟩
 ·exact (e.block _ h.quarter.lt (A h.quarter)).trans h.quarter
 ·exact (e.block _ h.edge.lt (A h.edge)).trans h.edge
theorem zhP {W:World} {v:Value} {l:List E} (h:HasEs W v l):RE.Has W v l:=by
 rcases h with h|⟨a,cap,h1,h2,h3,h4⟩
 ·exact .inl h
 refine .inr ⟨a,cap,h1,h2,h3,λ _=>h4.lt,λ i x hx j u hu=>?_⟩;have e0:=h4.at0 i x hx;have e1:=h4.at1 i x hx;have e2:=h4.at2 i x hx;show W.cell? (a.add (i*3+j))=some u;rw[<- qE]
 match j,hu with
 | 0,hu=>simp[RE,eVals]at hu;subst hu;exact e0
 | 1,hu=>simp[RE,eVals]at hu;subst hu;exact e1
 | 2,hu=>simp[RE,eVals]at hu;subst hu;exact e2
 | j+3,hu=>simp[RE,eVals]at hu
theorem drop_at {α:Type} {ps:List α} {i:Nat} {l:α} (h:ps[i]?=some l):ps.drop i=l :: ps.drop (i+1):=by
 obtain⟨h1,h2⟩:=yc.1 h;rw[List.drop_eq_getElem_cons h1,h2]
theorem qiq {W:World} {bb:Nat} {bv:BV} {t:Tk} {L:List E} {ps:List (List HP)} {bel:W3} {v:Value} {l:List E} (h:RE.Has W v l) (hbd:BdAt W bb bv t L ps bel) (u:Value):RE.Has (W.setCell ⟨bb,4,none⟩ u) v l:=by
 rcases h with h|⟨a,cap,h1,h2,h3,h4⟩
 ·exact .inl h
 refine .inr ⟨a,cap,h1,h2,h3,?_⟩
 cases l with
 | nil=>exact⟨λ h=>absurd rfl h,λ i x hx=>by simp at hx⟩
 | cons x l =>
  refine h4.move (yq _ _ _ _ λ e=>?_);have c0:=h4.at_ 0 x rfl 0 (.int .i64 x.x) rfl;have hb:=hbd.blk;obtain⟨p1,q1,e1⟩:=hbd.ground.slice;obtain⟨p2,q2,e2⟩:=hbd.kinds.slice;obtain⟨p3,q3,e3⟩:=hbd.counts.slice;obtain⟨p4,q4,e4⟩:=hbd.fixed.slice;obtain⟨js,A⟩:=hbd.below;obtain⟨p5,q5,e5⟩:=A.slice;obtain⟨p6,q6,e6⟩:=hbd.pieces.slice;rw[e1,e2,e3,e4,e5,e6]at hb;have c1:W.cell? a=some (.int .i64 x.x):=c0;simp only[World.cell?,e,hb]at c1;split at c1
  ·cases c1
  have hm:=Array.mem_of_getElem? c1;simp at hm
def VerI (t:Tk) (L:List E) (ps:List (List Ld)) (w:World) (base bb:Nat) (vg vk vc vf:Value) (i:Nat) (W:World):Prop :=
 ∃ (bv:BV) (v:Value) (js:List E),Bw w W/\BdAt W bb bv t L (pcsT t L) (belT t L)/\BvOwn W base bv vg vk vc vf v (pcsT t L)/\RE.Has W v js/\js.length<=1000/\(∀ e∈js,okE e)/\∀ r n a,VerP t L i js (ps.drop i) r n a->VerP t L 0 t.below ps r n a
theorem qf3 {t:Tk} (w:World) (vg vk vc vf vb v:Value) (hg:HasQ w vg t.ground) (hk:HasQQ w vk t.kinds) (hc:RI.Has w vc t.counts) (hcf:flatV vc) (hf:RL.Has w vf t.fixed) (hb:RE.Has w vb t.below) (hcl:t.counts.length<=1000) (hbl:t.below.length<=1000000) (htb:TbAt w)
  (ps:List (List Ld)) (us:List Value) (ba:Nat) (hv:OwnLs RL 31 w ba v us ps) (hpl:ps.length<=1000000) :
  Calls Tryz.prog 33 #[.agg #[vg,vk,vc,vf,vb],v] w (VerPost t ps w):=by
 obtain⟨gp,gc,rfl⟩:=hg.slice;obtain⟨kp,kc,rfl⟩:=hk.slice;obtain⟨cp,cc,rfl⟩:=hc.slice;obtain⟨fp,fc,rfl⟩:=hf.slice;obtain⟨bp,bc,rfl⟩:=hb.slice;obtain⟨vp,vq,rfl⟩:=zf hv.own;have C6:Hid (∀ W,Bw w W->Calls Tryz.prog 13 #[.agg #[.slice gp t.ground.length gc,.slice kp t.kinds.length kc,.slice cp t.counts.length cc,.slice fp t.fixed.length fc,.slice bp t.below.length bc]] W (CkPost t W)) :=
  yK λ W h=>qau W _ _ _ _ _ (hg.below h) (hk.below h) (hc.below h) (hf.below h) (hb.below h) hcl hbl
 have P:Hid (OkT t->∀ W,Bw w W->Calls Tryz.prog 37 #[.agg #[.slice gp t.ground.length gc,.slice kp t.kinds.length kc,.slice cp t.counts.length cc,.slice fp t.fixed.length fc,.slice bp t.below.length bc]] W λ e w'=>∃ (bb:Nat) (bv:BV) (L:List E),e=.returned (.pointer (some ⟨bb,0,none⟩))/\W.heap.size<=bb/\BdAt w' bb bv t L (pcsT t L) (belT t L)/\LOk t.ground L/\Bw W w'/\BvOwn w' W.heap.size bv (.slice gp t.ground.length gc) (.slice kp t.kinds.length kc) (.slice cp t.counts.length cc) (.slice fp t.fixed.length fc) (.slice bp t.below.length bc) (pcsT t L)) :=
  yK λ ho W h=>zaY ho W _ _ _ _ _ (hg.below h) (hk.below h) (hc.below h) hcf (hf.below h) (hb.below h)
 have U:Hid (∀ W,Bw w W->Calls Tryz.prog 77 #[.slice vp ps.length vq,.func (.func 78) #[] #[]] W λ e w'=>e=.returned (.bool (longP ps))/\w'=W):=yK λ W h=>qe3 ps us ba _ W (hv.below h) hpl;have Z:Hid (∀ W,Bw w W->HasQ W (.slice gp t.ground.length gc) t.ground/\HasQQ W (.slice kp t.kinds.length kc) t.kinds/\RI.Has W (.slice cp t.counts.length cc) t.counts/\RL.Has W (.slice fp t.fixed.length fc) t.fixed/\RE.Has W (.slice bp t.below.length bc) t.below/\OwnLs RL 31 W ba (.slice vp ps.length vq) us ps/\TbAt W):=yK λ W h=>⟨hg.below h,hk.below h,hc.below h,hf.below h,hb.below h,hv.below h,htb.below h⟩;clear hg hk hc hf hb hcf hv htb;go_enter func33,ntmps33;go_wp2_with fail;have hT:=yd w (.cells #[.slice gp t.ground.length gc,.slice kp t.kinds.length kc,.slice cp t.counts.length cc,.slice fp t.fixed.length fc,.slice bp t.below.length bc] 34);have hB:Bw w (w.alloc (.cells #[.slice gp t.ground.length gc,.slice kp t.kinds.length kc,.slice cp t.counts.length cc,.slice fp t.fixed.length fc,.slice bp t.below.length bc] 34)):=(yf _ w).alloc (ye _) _;revert hT hB;generalize w.alloc (.cells #[.slice gp t.ground.length gc,.slice kp t.kinds.length kc,.slice cp t.counts.length cc,.slice fp t.fixed.length fc,.slice bp t.below.length bc] 34)=w1;intro hT hB;have HB:=yK hB;clear hB;have A8:=(ya.1 hT).1;refine (C6.o w1 HB.o).mono ?_;rintro e w2 ⟨E3,rfl,h0,h2,A0⟩;have R:=(A0.block _ A8).trans hT;have O:=yK (HB.o.tm A0);clear A0 HB A8;have V:(Tryz.prog.info? 34).map (·.size)=some (#[.slice gp t.ground.length gc,.slice kp t.kinds.length kc,.slice cp t.counts.length cc,.slice fp t.fixed.length fc,.slice bp t.below.length bc]:Array Value).size:=sizeTask;clear hT C6;rcases h2 with rfl|rfl
 case inr =>
  have HN:Hid (¬ OkT t):=yK λ h=>absurd (h0.2 h) (by decide);clear P U h0 R V;go_wp2_with fail;refine Yc (zaG rfl _ _ _ _ _ _ rfl rfl rfl rfl) rfl ?_;exact⟨0,0,0,2,rfl,O.o,λ _=>⟨rfl,rfl,rfl,rfl⟩,λ h=>absurd h HN.o,λ h=>absurd h HN.o⟩
 case inl =>
  have A:Hid (OkT t):=yK (h0.1 rfl);clear h0;have C3:((5:Int)<(ps.length:Int))↔5<ps.length:=by omega
  have H:Hid ((5<ps.length\/longP ps=true)->VerPost t ps w (.returned (.tuple #[.int .i64 0,.int .i64 0,.int .i64 0,.int .i64 5])) w2):=yK λ h=>⟨0,0,0,5,rfl,O.o,λ hn=>absurd A.o hn,λ _ _=>⟨rfl,rfl,rfl,rfl⟩,λ _ h5 hl=>by
   rcases h with h|h
   ·omega
   rw[hl]at h;cases h⟩
  by_cases h5:5<ps.length
  case pos =>
   have C7:decide ((5:Int)<(ps.length:Int))=true:=yw (by omega);have B8:decide (5<ps.length)=true:=yw h5;have HF:=yK (H.o (.inl h5));clear P U R V h5 H C3;go_wp2_with fail;refine Yc (zaG rfl _ _ _ _ _ _ rfl rfl rfl rfl) rfl ?_;exact HF.o
  have C7:decide ((5:Int)<(ps.length:Int))=false:=yv (by omega);have B8:decide (5<ps.length)=false:=yv h5;have HC:=yK (U.o w2 O.o);have H5:=yK h5;clear U h5 C3;go_wp2_with fail;refine HC.o.mono ?_;rintro e w3 ⟨rfl,rfl⟩;clear HC C7 B8;by_cases hlp:longP ps=true
  case pos =>
   have HF:=yK (H.o (.inr hlp));rw[hlp];clear P R V hlp H;go_wp2_with fail;refine Yc (zaG rfl _ _ _ _ _ _ rfl rfl rfl rfl) rfl ?_;exact HF.o
  have x:longP ps=false:=by simpa using hlp
  have A3:=yK x;rw[x];have HL:=yK (P.o A.o w3 O.o);clear H hlp x P;go_upto_region 6 with fail;go_wp2_with (refine Yb rfl 34 _ rfl w.heap.size rfl 34 #[.slice gp t.ground.length gc,.slice kp t.kinds.length kc,.slice cp t.counts.length cc,.slice fp t.fixed.length fc,.slice bp t.below.length bc] (0,0) _ R underlying34 rfl V ?_);refine HL.o.mono ?_;rintro e w4 ⟨bb,E0,L,rfl,C5,N,j,D1,M⟩;have C:=yK j;have B1:Hid (w3.heap.size<=bb/\w.heap.size<=w3.heap.size):=yK ⟨C5,O.o.size⟩;have B3:=yK (O.o.tm D1);have HI:Hid (VerI t L ps w w3.heap.size bb (.slice gp t.ground.length gc) (.slice kp t.kinds.length kc) (.slice cp t.counts.length cc) (.slice fp t.fixed.length fc) 0 w4):=yK ⟨E0,_,t.below,B3.o,N,M,(Z.o w4 B3.o).2.2.2.2.1,yJ A.o.blen (by decide),zbi A.o,λ r n a h=>h⟩;clear j C5 N M D1 R HL;go_wp2_with fail;go_loopw [30] (λ z wr=>∃ i:Nat,i<=ps.length/\z=.int .i64 i/\Hid (VerI t L ps w w3.heap.size bb (.slice gp t.ground.length gc) (.slice kp t.kinds.length kc) (.slice cp t.counts.length cc) (.slice fp t.fixed.length fc) i wr)) (λ z _=>ps.length-(intOf z).toNat)
  case atStart=>exact⟨0,YC _,rfl,HI⟩
  clear HI;obtain⟨i,hi,rfl,HR⟩:=hrel;by_cases hlt:i<ps.length
  case neg =>
   obtain rfl:ps.length=i:=(by omega);have HF:Hid (VerPost t ps w (.returned (.tuple #[.int .i64 (-1),.int .i64 0,.int .i64 0,.int .i64 0])) wr):=yK (by
    obtain⟨bv,v,js,h1,_,_,_,_,_,h7⟩:=HR.o;refine⟨-1,0,0,0,rfl,h1,λ h=>absurd A.o h,λ _ h=>?_,λ _ _ _=>⟨rfl,L,C.o,h7 _ _ _ (by rw[List.drop_length];exact⟨rfl,rfl,rfl⟩)⟩⟩;rcases h with h|h
    ·exact absurd h H5.o
    rw[A3.o]at h;cases h)
   clear HR;go_wp2_with fail;refine Yc (zaG rfl _ _ _ _ _ _ rfl rfl rfl rfl) rfl ?_;exact HF.o
  obtain⟨l,hl⟩:∃ l,ps[i]?=some l:=⟨_,yb hlt⟩;obtain⟨bv,v,js,K,N,M,D3,B0,D4,c⟩:=HR.o;obtain⟨ga,ca,u,C2,hu,c0,F⟩:=((Z.o wr K).2.2.2.2.2.1).at hl;simp only[yC,true_and]at C2;obtain⟨rfl,rfl⟩:=C2;obtain⟨up,uc,rfl⟩:=zf F;have C9:l.length<=16:=by
   have h1:=A3.o;unfold longP at h1;rw[List.any_eq_false]at h1;have:=h1 l (yg hl);simpa using this
  have B7:=yK (zdn (js:=js) (qR A.o C.o) wr bb bv N (Z.o wr K).2.2.2.2.2.2 l C9 (.slice up l.length uc) (REnc.Own.has F) (by rw[M.b];exact D3) A.o.fixed B0 C.o.nodup (qds A.o C.o) D4);have G:=yK (And.intro K (And.intro N M));have s:=yK c;have A9:=yK hl;clear K N M D3 B0 D4 c F C9 hu HR hl;rw[zJ]at c0;go_wp2_with fail;refine B7.o.mono ?_;rintro e w5 ⟨n,a,cS,rfl,C4,A7,A2,k,p⟩;have X:=yK C4;have g:=yK p;have B6:=yK A7;clear C4 p A7 B7 c0;have C1:(Tryz.prog.info? 108).map (·.size)=some cS.size:=by rw[<- A2];exact sizeS
  obtain⟨cF,I⟩:∃ cF:Array Value,#[.int .i64 n,.int .i64 a]=cF:=⟨_,rfl⟩;have J:(Tryz.prog.info? 135).map (·.size)=some cF.size:=by rw[<- I];kernel_rfl
  have q:cF.all (·.oneCell')=true:=by rw[<- I];simp[Value.oneCell']
  have D2:(#[.int .i64 0,.int .i64 0]:Array Value).size=cF.size:=by rw[<- I];rfl
  have T:∀ W,(Op.equalIn 10000 135 (.agg cF) (.agg #[.int .i64 0,.int .i64 0])).run Tryz.prog W=.ok (decide ((n,a)=(0,0))) W:=λ W=>by rw[<- I];exact qdt n a W
  have B2:=yK I.symm;rw[I];clear I;have y:=(qP w5 (.cells #[.int .i64 0,.int .i64 0] 135) (.cells (hsVals zeroS).toArray 108)).1;have A4:=(setRow_other ((w5.alloc (.cells #[.int .i64 0,.int .i64 0] 135)).alloc (.cells (hsVals zeroS).toArray 108)) w5.heap.size (w5.heap.size+1) cF (by omega)).trans (qP w5 (.cells #[.int .i64 0,.int .i64 0] 135) (.cells (hsVals zeroS).toArray 108)).2.1;go_upto_region 11 with (first
   | (refine wpList_store_row rfl 135 _ _ rfl w5.heap.size rfl 135 _ cF rfl y J D2 q ?_)
   | (refine wpList_store_row rfl 108 _ _ rfl (w5.heap.size+1) rfl 108 _ cS rfl A4 C1 A2 k ?_))
  simp only[Act.put];have D9:((((w5.alloc (.cells #[.int .i64 0,.int .i64 0] 135)).alloc (.cells (hsVals zeroS).toArray 108)).setRow w5.heap.size cF).setRow (w5.heap.size+1) cS).heap[w5.heap.size]?=some (.cells cF 135 (0,0)):=(setRow_other _ _ _ _ (by omega)).trans (setRow_heap _ _ _ _ _ _ y);have D6:((((w5.alloc (.cells #[.int .i64 0,.int .i64 0] 135)).alloc (.cells (hsVals zeroS).toArray 108)).setRow w5.heap.size cF).setRow (w5.heap.size+1) cS).heap[w5.heap.size+1]?=some (.cells cS 108 (0,0)):=setRow_heap _ _ _ _ _ _ A4;have C8:Bw w5 ((((w5.alloc (.cells #[.int .i64 0,.int .i64 0] 135)).alloc (.cells (hsVals zeroS).toArray 108)).setRow w5.heap.size cF).setRow (w5.heap.size+1) cS):=zh (zh (qP w5 _ _).2.2 (ye _) _) (by omega) _;have D:Hid (Bw wr ((((w5.alloc (.cells #[.int .i64 0,.int .i64 0] 135)).alloc (.cells (hsVals zeroS).toArray 108)).setRow w5.heap.size cF).setRow (w5.heap.size+1) cS)):=yK (B6.o.tm C8);clear C8 y A4;revert D9 D6 D;change _->_->_->Code.wp _ _ _ _ ((((w5.alloc (.cells #[.int .i64 0,.int .i64 0] 135)).alloc (.cells (hsVals zeroS).toArray 108)).setRow w5.heap.size cF).setRow (w5.heap.size+1) cS);generalize ((((w5.alloc (.cells #[.int .i64 0,.int .i64 0] 135)).alloc (.cells (hsVals zeroS).toArray 108)).setRow w5.heap.size cF).setRow (w5.heap.size+1) cS)=w6;intro hF hS D;by_cases hni:(n,a)=(0,0)
  case neg =>
   have hd:decide ((n,a)=(0,0))=false:=yv hni;rw[hd]at T;have HF:Hid (∀ W,Bw w6 W->VerPost t ps w (.returned (.tuple #[.int .i64 i,.int .i64 n,.int .i64 a,.int .i64 0])) W):=yK (λ W hW=>by
    refine⟨i,n,a,0,rfl,(G.o.1.tm D.o).trans (hW.mono (yJ G.o.1.size D.o.size)),λ h=>absurd A.o h,λ _ h=>?_,λ _ _ _=>⟨rfl,L,C.o,s.o _ _ _ ?_⟩⟩
    ·rcases h with h|h
     ·exact absurd h H5.o
     rw[A3.o]at h;cases h
    rw[drop_at A9.o];exact .inl ⟨by rw[<- X.o];exact hni,rfl,X.o⟩)
   have f0:w6.cell? ⟨w5.heap.size,0,none⟩=some (.int .i64 n):=(by simp only[World.cell?,hF,B2.o];rfl);have f1:w6.cell? ⟨w5.heap.size,1,none⟩=some (.int .i64 a):=(by simp only[World.cell?,hF,B2.o];rfl);clear hni hd;go_upto_region 12 with (first
    | (refine Yb rfl 135 _ rfl w5.heap.size rfl 135 cF (0,0) _ hF underlying135 rfl J ?_)
    | (refine zaQ rfl 135 _ _ _ rfl rfl rfl (by kernel_rfl) (T _) ?_))
   go_quiet (fail);go_wp2_with fail;refine Yc (zaG rfl _ _ _ _ _ _ rfl rfl rfl rfl) rfl ?_;exact HF.o _ (below_drewN _ _ _)
  have hd:decide ((n,a)=(0,0))=true:=yw hni;rw[hd]at T;obtain⟨rfl,rfl⟩:=Prod.mk.inj hni;obtain⟨S,E1,d,F⟩:=g.o rfl;have D7:Hid (coversT (withB t js) l=(0,0)):=yK X.o.symm;have f:=(G.o.2.1.keep D.o).blk;have D5:w6.cell? ⟨bb,6,none⟩=some (.map (some bv.em)):=by simp only[World.cell?,f];rfl
  have HE:=yK (qf8 C.o.nodup (qR A.o C.o).l192 (jointT (parts t l)) w6 bb bv.em D5 (G.o.2.1.keep D.o).edge);rw[<- d.joint]at HE;clear hni hd g X d F D5 f;subst E1;obtain⟨sp,sn,sc,E4,sb,⟨j0,j1,j2⟩,sm⟩:=S;have c5:w6.cell? ⟨w5.heap.size+1,5,none⟩=some (.int .u64 j0):=by simp only[World.cell?,hS];rfl
  have c6:w6.cell? ⟨w5.heap.size+1,6,none⟩=some (.int .u64 j1):=by simp only[World.cell?,hS];rfl
  have c7:w6.cell? ⟨w5.heap.size+1,7,none⟩=some (.int .u64 j2):=by simp only[World.cell?,hS];rfl
  go_upto_region 13 with (first
   | (refine Yb rfl 135 _ rfl w5.heap.size rfl 135 cF (0,0) _ hF underlying135 rfl J ?_)
   | (refine zaQ rfl 135 _ _ _ rfl rfl rfl (by kernel_rfl) (T _) ?_))
  clear hF hS J q D2 T A2 k C1;go_wp2_with fail;refine Calls.mono (show Calls Tryz.prog 55 #[_,.agg #[.int .u64 j0,.int .u64 j1,.int .u64 j2]] _ _ from HE.o) ?_;rintro e w7 ⟨u,es,rfl,A1,B4,A6,C0⟩;obtain⟨ep,ec,rfl⟩:=A1.slice;have A5:=yK (D.o.tm C0);have B:=yK (G.o.2.1.keep A5.o);have D0:=yK (G.o.1.tm A5.o);have m:Hid (BvOwn w7 w3.heap.size bv (.slice gp t.ground.length gc) (.slice kp t.kinds.length kc) (.slice cp t.counts.length cc) (.slice fp t.fixed.length fc) v (pcsT t L)):=yK (by
   obtain⟨b1,b2,b3,b4,b5,b6,b7,b8⟩:=G.o.2.2;exact⟨b1,b2,b3,b4,b5,b6,b7,b8.below A5.o⟩)
  have D8:=yK A1;have Y:=yK (And.intro B4 A6);have cb:w7.cell? ⟨bb,4,none⟩=some bv.b:=by simp only[World.cell?,B.o.blk];rfl
  have cf:w7.frozen? ⟨bb,4,none⟩=false:=frozen_of_row _ _ _ _ _ B.o.blk;clear A1 B4 A6 C0 HE c5 c6 c7 D G B6;have E2:Hid (VerI t L ps w w3.heap.size bb (.slice gp t.ground.length gc) (.slice kp t.kinds.length kc) (.slice cp t.counts.length cc) (.slice fp t.fixed.length fc) (i+1) (w7.setCell ⟨bb,4,none⟩ (.slice ep es.length ec))):=yK (by
   have B5:Bw w (w7.setCell ⟨bb,4,none⟩ (.slice ep es.length ec)):=D0.o.trans (zaK (by have h1:=B1.o.1;have h2:=B1.o.2;exact yJ h2 h1) _);have ha:=Z.o _ B5;have B9:RE.Has (w7.setCell ⟨bb,4,none⟩ (.slice ep es.length ec)) (.slice ep es.length ec) es:=qiq (zhP D8.o) B.o _;refine⟨{ bv with b:=.slice ep es.length ec },.slice ep es.length ec,es,B5,B.o.over m.o ((BelowBut.refl _ _ _).set 4 _) (yI _ _ _ _ _ _ B.o.blk) ha.1 ha.2.1 ha.2.2.1 ha.2.2.2.1 ⟨es,B9⟩,?_,B9,?_,?_,λ r n a h=>s.o r n a (by rw[drop_at A9.o];exact .inr ⟨D7.o,es,Y.o.1,Y.o.2,h⟩)⟩
   ·obtain⟨b1,b2,b3,b4,b5,b6,b7,b8⟩:=m.o;exact⟨b1,b2,b3,b4,rfl,b6,b7,b8.but2 ((BelowBut.refl _ _ _).set 4 _) B.o.blk⟩
   ·rw[Y.o.1.length_eq];have h1:=List.length_filter_le (jointT (parts t l)) L;have h2:=(qR A.o C.o).l192;omega
   intro e he;exact qds A.o C.o e (List.mem_filter.1 (Y.o.1.mem_iff.1 he)).1)
  go_wp2_with fail
  go_roundw
  case rel=>exact⟨i+1,by omega,by go_num,E2⟩
  case measure=>simp only[intOf];omega
end Go.Proofs.YtiinlplgloaanaaGreatDoor
