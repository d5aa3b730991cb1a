/- Plain: what chapter 7's known asks. -/
import Derived.Test.YtiinlplgloaanaaGreatDoorZzLayerOver46
set_option linter.all false
set_option maxRecDepth 100000
set_option maxHeartbeats 16000000
namespace Go.Proofs.YtiinlplgloaanaaGreatDoor
open Go.Proofs.Tryz Go.RowKit
attribute [local go_sem] Oper.semAt_some
def qch (t:Tk) (n:Int) (w:World) (e:Ending) (w':World):Prop:=∃ (u:Value) (us:List Value) (code:Nat),e=.returned (.tuple #[u,.int .i64 code])/\Bw w w' /\
 ((u=.slice none 0 0/\((¬ OkT t/\code=2)\/(OkT t/\¬ (1<=n/\n<=5)/\code=3))) \/
  (OkT t/\1<=n/\n<=5/\OwnLs RL 31 w' w.heap.size u us (layersT t n.toNat).1/\code=(layersT t n.toNat).2))
theorem zbR {t:Tk} {w w':World} {n:Nat} (ho:OkT t) (h1:1<=n) (h5:n<=5) (hB:Bw w w') {c:Nat} (hl:layersT t n=([],c)):qch t (n:Int) w (.returned (.tuple #[.slice none 0 0,.int .i64 c])) w' :=
 ⟨_,[],c,rfl,hB,.inr ⟨ho,by omega,by omega,by rw[Int.toNat_natCast,hl];exact OwnLs.nil _ _ _ _,by rw[Int.toNat_natCast,hl]⟩⟩
theorem infoBool:(Tryz.prog.info? 4).map (λ i=>(i.zero,i.size,i.bytes))=some (some (.bool false),1,1):=by kernel_rfl
theorem infoLs:(Tryz.prog.info? 31).map (λ i=>(i.zero,i.size,i.bytes))=some (some (.slice none 0 0),1,24):=by kernel_rfl
theorem qeL {m:Nat} (h1:1<=m) (h5:m<=5) (w:World):(Instr.makeSlice 160 (.int .i64 m) (.int .i64 m)).run Tryz.prog w=.ok (.slice (some ⟨w.heap.size,0,none⟩) m m) (w.alloc (.cells (Array.replicate m (.slice none 0 0)) 88)):=by
 rcases (by omega:m=1\/m=2\/m=3\/m=4\/m=5)with rfl|rfl|rfl|rfl|rfl <;> kernel_rfl
theorem qdg {t:Tk} (n:Int) (w:World) (vg vk vc vf vb:Value) (hg:HasQ w vg t.ground) (hk:HasQQ w vk t.kinds) (hc:RI.Has w vc t.counts) (hcf:flatV vc) (hf:RL.Has w vf t.fixed) (hb:RE.Has w vb t.below) (hcl:t.counts.length<=1000) (hbl:t.below.length<=1000000) (htb:TbAt w) :
  Calls Tryz.prog 32 #[.agg #[vg,vk,vc,vf,vb],.int .i64 n] w (qch t n w):=by
 obtain⟨gp,gc,rfl⟩:=hg.slice;obtain⟨kp,kc,rfl⟩:=hk.slice;obtain⟨cp,cc,rfl⟩:=hc.slice;obtain⟨fp,fc,rfl⟩:=hf.slice;obtain⟨bp,bc,rfl⟩:=hb.slice;have E8:Hid (∀ W,Below w.heap.size w W->Calls Tryz.prog 13 #[.agg #[.slice gp t.ground.length gc,.slice kp t.kinds.length kc,.slice cp t.counts.length cc,.slice fp t.fixed.length fc,.slice bp t.below.length bc]] W (CkPost t W)):=yK
  λ W h=>qau W _ _ _ _ _ (hg.below h) (hk.below h) (hc.below h) (hf.below h) (hb.below h) hcl hbl
 have I2:Hid (∀ W,Below w.heap.size w W->OkT t->Calls Tryz.prog 37 #[.agg #[.slice gp t.ground.length gc,.slice kp t.kinds.length kc,.slice cp t.counts.length cc,.slice fp t.fixed.length fc,.slice bp t.below.length bc]] W λ e w'=>∃ (bb:Nat) (bv:BV) (L:List E),e=.returned (.pointer (some ⟨bb,0,none⟩))/\W.heap.size<=bb/\BdAt w' bb bv t L (pcsT t L) (belT t L)/\LOk t.ground L/\Below W.heap.size W w'/\BvOwn w' W.heap.size bv (.slice gp t.ground.length gc) (.slice kp t.kinds.length kc) (.slice cp t.counts.length cc) (.slice fp t.fixed.length fc) (.slice bp t.below.length bc) (pcsT t L)):=yK
  λ W h ho=>zaY ho W _ _ _ _ _ (hg.below h) (hk.below h) (hc.below h) hcf (hf.below h) (hb.below h)
 have G8:Hid (∀ W,Below w.heap.size w W->HasQ W (.slice gp t.ground.length gc) t.ground/\HasQQ W (.slice kp t.kinds.length kc) t.kinds/\RI.Has W (.slice cp t.counts.length cc) t.counts/\RL.Has W (.slice fp t.fixed.length fc) t.fixed/\RE.Has W (.slice bp t.below.length bc) t.below):=yK
  λ W h=>⟨hg.below h,hk.below h,hc.below h,hf.below h,hb.below h⟩
 have O4:=yK htb;clear htb hg hk hc hf hb hcf;generalize R8:qch t n w=Po;have D1:=yK R8;clear R8;go_enter func32,ntmps32;go_wp2_with fail;have hT:=yd w (.cells #[.slice gp t.ground.length gc,.slice kp t.kinds.length kc,.slice cp t.counts.length cc,.slice fp t.fixed.length fc,.slice bp t.below.length bc] 34);have hB:Below w.heap.size w (w.alloc (.cells #[.slice gp t.ground.length gc,.slice kp t.kinds.length kc,.slice cp t.counts.length cc,.slice fp t.fixed.length fc,.slice bp t.below.length bc] 34)):=(yf _ w).alloc (ye _) _;revert hT hB;generalize w.alloc (.cells #[.slice gp t.ground.length gc,.slice kp t.kinds.length kc,.slice cp t.counts.length cc,.slice fp t.fixed.length fc,.slice bp t.below.length bc] 34)=w1;intro hT hB;have HB:=yK hB;clear hB;have R4:=(ya.1 hT).1;refine (E8.o w1 HB.o).mono ?_;rintro e w2 ⟨C2,rfl,h0,h2,C6⟩;have O2:=(C6.block _ R4).trans hT;have D9:=yK (HB.o.tm C6);clear C6 HB R4;have A:∀ j,w2.cell? ⟨w.heap.size,j,none⟩=(#[.slice gp t.ground.length gc,.slice kp t.kinds.length kc,.slice cp t.counts.length cc,.slice fp t.fixed.length fc,.slice bp t.below.length bc]:Array Value)[j]?:=λ j=>by simp only[World.cell?,O2];simp
 have c0:=A 0;have c1:=A 1;have c2:=A 2;have c3:=A 3;have c4:=A 4;simp at c0 c1 c2 c3 c4;clear A hT E8 O2;rcases h2 with rfl|rfl
 case inr =>
  have HN:Hid (¬ OkT t):=yK λ h=>absurd (h0.2 h) (by decide);clear I2 h0 c0 c1 c2 c3 c4;go_wp2_with fail;rw[<- D1.o];exact⟨_,[],2,rfl,D9.o,.inl ⟨rfl,.inl ⟨HN.o,rfl⟩⟩⟩
 case inl =>
  have X:Hid (OkT t):=yK (h0.1 rfl);have HL:=yK (I2.o w2 D9.o X.o);clear I2 h0;by_cases hn:1<=n/\n<=5
  case neg =>
   have HW:Hid (∀ W,Calls Tryz.prog 43 #[.int .i64 n,.int .i64 1,.int .i64 5] W λ e w'=>e=.returned (.bool false)/\W=w'):=yK λ W=>by
    refine (qJ n 1 5 W).mono ?_;rintro e w' ⟨rfl,rfl⟩;exact⟨qM (yv hn),rfl⟩
   have T8:=yK hn;clear HL c0 c1 c2 c3 c4 hn;go_wp2_with fail;refine (HW.o w2).mono ?_;rintro e w3 ⟨rfl,rfl⟩;clear HW;go_wp2_with fail
   skip
   rw[<- D1.o];exact⟨_,[],3,rfl,D9.o,.inl ⟨rfl,.inr ⟨X.o,T8.o,rfl⟩⟩⟩
  obtain⟨m,rfl⟩:∃ m:Nat,n=(m:Int):=⟨n.toNat,by omega⟩;have HN:Hid (1<=m/\m<=5):=yK (by omega);have HW:Hid (∀ W,Calls Tryz.prog 43 #[.int .i64 (m:Int),.int .i64 1,.int .i64 5] W λ e w'=>e=.returned (.bool true)/\W=w'):=yK λ W=>by
   refine (qJ m 1 5 W).mono ?_;rintro e w' ⟨rfl,rfl⟩;exact⟨qM (yw hn),rfl⟩
  clear hn;go_wp2_with fail;refine (HW.o w2).mono ?_;rintro e w3 ⟨rfl,rfl⟩;clear HW;go_wp2_with fail;refine HL.o.mono ?_;rintro e w3 ⟨bb,bv,L,rfl,F3,F8,G5,P7,M3⟩;have H8:=yK (D9.o.tm P7);have P9:Hid (w.heap.size<=bb/\bb<w3.heap.size):=yK ⟨yJ D9.o.size F3,(ya.1 F8.blk).1⟩;have B7:=yK G5;have P3:Hid (∀ q∈t.ground,inQ q):=yK λ q hq=>(qh X.o.ground).1.1 q hq;have D3:Hid (∀ P:E->Bool,okW (wordsE P L)):=yK λ P=>zY _ _;have Q3:=yK (λ P R=>zhO P3.o B7.o (qR X.o B7.o).l192 P R);have O7:=yK F8;have A1:=yK M3;have V9:=D3.o (λ e=>decide (e∈t.below));obtain⟨⟨b0,b1,b2⟩,L7⟩:∃ b,wordsE (λ e=>decide (e∈t.below)) L=b:=⟨_,rfl⟩;have O6:=yK L7;have A5:=F8.blk;rw[show belT t L=(b0,b1,b2)from L7]at A5;have e8:w3.cell? ⟨bb,8,none⟩=some (.int .u64 b0):=by simp only[World.cell?,A5];rfl
  have e9:w3.cell? ⟨bb,9,none⟩=some (.int .u64 b1):=by simp only[World.cell?,A5];rfl
  have W1:w3.cell? ⟨bb,10,none⟩=some (.int .u64 b2):=by simp only[World.cell?,A5];rfl
  clear P7 F3 F8 G5 M3 L7 A5 V9 HL c0 c1 c2 c3 c4;go_upto_region 8 with fail;clear e8 e9 W1;have C:Below w3.heap.size w3 (w3.alloc (.cells #[.int .u64 b0,.int .u64 b1,.int .u64 b2] 105)):=(yf _ w3).alloc (ye _) _;have M8:=yd w3 (.cells #[.int .u64 b0,.int .u64 b1,.int .u64 b2] 105);have F1:=yK (H8.o.tm C);have Z:=yK (O7.o.keep C);have B9:Hid (BvOwn (w3.alloc (.cells #[.int .u64 b0,.int .u64 b1,.int .u64 b2] 105)) w2.heap.size bv (.slice gp t.ground.length gc) (.slice kp t.kinds.length kc) (.slice cp t.counts.length cc) (.slice fp t.fixed.length fc) (.slice bp t.below.length bc) (pcsT t L)) :=
   yK ⟨A1.o.g,A1.o.k,A1.o.c,A1.o.f,A1.o.b,A1.o.qm,A1.o.em,A1.o.pp.below C⟩
  have F4:=yK M8;have J8:Hid (w3.heap.size<(w3.alloc (.cells #[.int .u64 b0,.int .u64 b1,.int .u64 b2] 105)).heap.size):=yK (by rw[yp];exact Nat.lt_succ_self _);clear O7 A1 C M8;revert F1 Z B9 F4 J8;change _->_->_->_->_->Code.wp _ _ _ _ (w3.alloc (.cells #[.int .u64 b0,.int .u64 b1,.int .u64 b2] 105));generalize w3.alloc (.cells #[.int .u64 b0,.int .u64 b1,.int .u64 b2] 105)=w4;intro F1 Z B9 F4 J8;have R0:=yK (qdZ (L:=L) B7.o.nodup (λ e he=>by
   obtain⟨q,hq,h⟩:=(B7.o.mem e).1 he;exact qaJ (P3.o q hq) e h) (qR X.o B7.o).l192 [] (λ e he=>by cases he) (YC _) (.slice none 0 0) w4 bb bv.g bv.k bv.c bv.f bv.b bv.qm bv.em bv.pv (belT t L) (2 ^ t.ground.length-1) Z.o.blk Z.o.edge (.inl ⟨rfl,rfl⟩) (λ h=>absurd rfl h))
  go_wp2_with fail;refine R0.o.mono ?_;rintro e w5 ⟨⟨v,rfl⟩,G9,C0⟩;have L2:=yK (qcE F1.o P9.o.1 F1.o.size C0);obtain⟨x1,x2,x3,x4,x5⟩:=G8.o w5 L2.o;have G1:=yK (Z.o.free B9.o C0 G9 x1 x2 x3 x4 x5);have H6:Hid (w5.heap[w3.heap.size]?=some (.cells #[.int .u64 b0,.int .u64 b1,.int .u64 b2] 105 (0,0))):=yK ((C0.block _ J8.o (by have:=P9.o.2;omega)).trans F4.o);have E0:=yK (za9 X.o);have F0:Hid (LOk (withB t []).ground L):=yK B7.o;have F6:=yK (qaN E0.o (qR E0.o F0.o) w5 bb bv G1.o (O4.o.below L2.o) λ W' hb' _=>zba (qR E0.o F0.o) W' bb bv hb');have H9:=yK (zaz (withB t []));have I6:Hid (∀ T∈(tilingsT (withB t [])).1,T.length<=64):=yK λ T hT=>zbr (qR E0.o F0.o) hT λ s hs=>za2 hs;have A7:Hid (layersT t m=if (tilingsT (withB t [])).2.2≠0 then ([],(tilingsT (withB t [])).2.2)else if 1000<(tilingsT (withB t [])).1.length then ([],8)else
   match planT t.ground (tilingsT (withB t [])).1 m (λ e=>decide (e∈t.below))with
   | none=>([],7)
   | some x=>(x.map λ T=>T.map (·.ld),0)):=yK rfl
  clear R0 C0 G9 x1 x2 x3 x4 x5 Z B9 F4 G1 E0 F0 G8 O4;revert F6 H9 I6 A7;generalize tilingsT (withB t [])=R;obtain⟨Ts,nn,C2⟩:=R;simp only;intro F6 H9 I6 A7;go_wp2_with fail;refine F6.o.mono ?_;rintro e w6 ⟨v6,rfl,L9,J5⟩;have P4:Hid (TsAt w6 t.ground L w5.heap.size v6 Ts):=yK L9;have F2:=yK (L2.o.tm J5);have I3:=yK ((J5.block _ (ya.1 H6.o).1).trans H6.o);obtain⟨vp,vc,rfl⟩:=L9.slice;clear L9 J5 F6 H6;by_cases hcode:C2=0
  case neg =>
   have hd:((C2:Int) != 0)=true:=(by simpa using hcode);have B6:Hid (layersT t m=([],C2)):=yK (by rw[A7.o,YA hcode]);clear A7 hcode;go_wp2_with fail
   skip
   rw[<- D1.o];exact zbR X.o HN.o.1 HN.o.2 F2.o B6.o
  subst hcode;by_cases hmany:1000<Ts.length
  case pos =>
   have hd:decide ((1000:Int)<(Ts.length:Int))=true:=yw (by omega);have B6:Hid (layersT t m=([],8)):=yK (by rw[A7.o,Yz (by decide),YA hmany]);clear A7 hmany;go_wp2_with fail
   skip
   rw[<- D1.o];exact zbR X.o HN.o.1 HN.o.2 F2.o B6.o
  have hd:decide ((1000:Int)<(Ts.length:Int))=false:=yv (by omega);have D7:Hid (Ts.length<=1000):=yK (by omega);have B6:Hid (layersT t m=match planT t.ground Ts m (λ e=>decide (e∈t.below))with
   | none=>([],7)
   | some x=>(x.map λ T=>T.map (·.ld),0)):=yK (by rw[A7.o,Yz (by decide),Yz hmany])
  have V3:=qeL HN.o.1 HN.o.2;clear A7 hmany H9;go_wp2_with fail;have A8:=yd w6 (.cells (Array.replicate m (.slice none 0 0)) 88);have C:Below w6.heap.size w6 (w6.alloc (.cells (Array.replicate m (.slice none 0 0)) 88)):=(yf _ w6).alloc (ye _) _;obtain⟨D6,E9⟩:=OwnLs.nils (T:=88) RB A8 (ye _) (by have:=HN.o.2;simp only[maxLen];omega);have A0:=yK (And.intro C (And.intro D6 E9));have G2:Hid (∃ Ss:List HS,Ss.length=Ts.length/\∀ W,(∀ k,k<w6.heap.size->k≠w3.heap.size->W.heap[k]?=w6.heap[k]?)->RS.Has W (.slice vp Ts.length vc) Ss/\∀ (i:Nat) (S:HS) (T:List Pc),Ss[i]?=some S->Ts[i]?=some T->StT t.ground L T S/\RP.Has W S.laid (T.map (hpT t.ground L))):=yK (by
   obtain⟨Ss,h1,h2,h3⟩:=P4.o;have mv:∀ {T:TypeId} {n m:Nat} {u:Value} {xs:List Value} {W:World},T≠105->(∀ k,k<w6.heap.size->k≠w3.heap.size->W.heap[k]?=w6.heap[k]?)->w6.ownsRow w5.heap.size T n u m xs->W.ownsRow w5.heap.size T n u m xs:=λ hT h ho=>qj ho λ k hk=>by
    obtain⟨_,V,X2,L0⟩:=qg ho hk;refine h k V λ e=>?_;rw[e,I3.o]at L0;simp only[yo,Yh]at L0;exact hT L0.2.1.symm
   exact⟨Ss,h2,λ W h=>⟨REnc.Own.has (mv (by decide) h h1),λ i S T hS hT=>⟨(h3 i S T hS hT).1,REnc.Own.has (mv (by decide) h (h3 i S T hS hT).2)⟩⟩⟩)
  clear A8 C D6 E9 V3 hd P4;revert A0;change _->Code.wp _ _ _ _ (w6.alloc (.cells (Array.replicate m (.slice none 0 0)) 88));generalize w6.alloc (.cells (Array.replicate m (.slice none 0 0)) 88)=w7;intro A0;obtain⟨Ss,R3,S3⟩:=G2.o;have J4:=yK R3;have E6:=yK S3;clear R3 S3 G2;obtain⟨B1,H4⟩:∃ B1,w6.heap.size=B1:=⟨_,rfl⟩;have B8:=yK H4;rw[H4]at A0 E6 ⊢;clear H4;go_wp2_with fail;go_loopw [58] (λ z wr=>∃ (d:Nat) (vs:List Value),d<=m/\z=.int .i64 d/\Hid (Below B1 w6 wr/\OwnLs RB 88 wr B1 (.slice (some ⟨B1,0,none⟩) m m) vs (canP t.ground Ts m d 0)/\FarVs vs)) (λ z _=>m-(intOf z).toNat)
  case atStart=>exact⟨0,_,YC _,rfl,yK ⟨A0.o.1,by rw[qgu];exact A0.o.2.1,A0.o.2.2⟩⟩
  clear A0;obtain⟨d,vs,X0,rfl,HR⟩:=hrel;by_cases hlt:d<m
  case pos =>
   go_wp2_with fail;go_loopw [63] (λ z wr=>∃ (k:Nat) (us:List Value),k<=Ts.length/\z=.int .i64 k/\Hid (Below B1 w6 wr/\OwnLs RB 88 wr B1 (.slice (some ⟨B1,0,none⟩) m m) us (canP t.ground Ts m d k)/\FarVs us)) (λ z _=>Ts.length-(intOf z).toNat)
   case atStart=>exact⟨0,_,YC _,rfl,HR⟩
   clear HR;obtain⟨k,us,hk,rfl,HR⟩:=hrel;by_cases V:k<Ts.length
   case pos =>
    obtain⟨T,hT⟩:∃ T,Ts[k]?=some T:=⟨_,yb V⟩;obtain⟨S,hS⟩:∃ S,Ss[k]?=some S:=⟨_,yb (by rw[J4.o];exact V)⟩;obtain⟨A4,B0⟩:=E6.o wr λ b hb _=>HR.o.1.block b hb;obtain⟨xa,rfl,J⟩:=A4.at_ (by rintro e;rw[e]at hS;simp at hS);have E5:(Instr.loadAt 108 (.pointer (some (xa.add (k*16))))).run Tryz.prog wr=.ok (.agg (hsVals S).toArray) wr:=zn (P:=Tryz.prog) (R:=RS) underlying108 rfl sizeS J hS;have D4:(Tryz.prog.info? 108).map (·.size)=some (hsVals S).toArray.size:=sizeS;have A6:(hsVals S).toArray.all (·.oneCell')=true:=(by simp[hsVals,Value.oneCell']);have E7:Hid (S.joint=wordsE (jointT T) L):=yK (B0 k S T hS hT).1.joint;have C9:=yK hT;have N1:Hid (B1<=wr.heap.size):=yK (by rw[<- B8.o];exact HR.o.1.size);clear hT hS A4 B0 J;go_upto_region 22 with (first
     | (refine qo rfl 108 _ rfl rfl E5 ?_)
     | (refine wpList_store_row rfl 108 _ _ rfl wr.heap.size rfl 108 _ (hsVals S).toArray rfl (yd wr _) D4 rfl A6 ?_;rw[World.setRow_alloc_new]))
    simp only[Act.put];have A2:=yd wr (.cells (hsVals S).toArray 108);have C:Below wr.heap.size wr (wr.alloc (.cells (hsVals S).toArray 108)):=(yf _ wr).alloc (ye _) _;have U:=yK (And.intro (HR.o.1.trans (C.mono N1.o)) (And.intro (HR.o.2.1.below C) HR.o.2.2));clear E5 C D4 A6 HR N1;revert A2 U;change _->_->Code.wp _ _ _ _ (wr.alloc (.cells (hsVals S).toArray 108));generalize wr.alloc (.cells (hsVals S).toArray 108)=w8;generalize wr.heap.size=sb;intro A2 U;have H2:((d:Int)==0)=okP t.ground Ts d k 0:=by
     rw[zhC];by_cases h:d=0
     ·subst h;rfl
     rw[yv h];simpa using h
    have P2:=yK A2;clear A2;go_wp2_with fail;clear H2;go_loopw [17,18] (λ u z wr=>∃ j:Nat,j<=Ts.length/\z=.int .i64 j/\u=.bool (okP t.ground Ts d k j)/\Hid (Below w8.heap.size w8 wr)) (λ _ z _=>Ts.length-(intOf z).toNat)
    case atStart=>exact⟨0,YC _,rfl,rfl,yK (yf _ _)⟩
    obtain⟨j,hj,rfl,rfl,HW⟩:=hrel;obtain⟨ok,I4⟩:∃ ok,okP t.ground Ts d k j=ok:=⟨_,rfl⟩;have C1:=yK I4;rw[I4];clear I4;go_upto_region 24 with fail;go_cut [76]from 69 to 76 (λ u wx=>∃ r:Bool,u=.bool r/\Hid (r=true↔(j<Ts.length/\ok=false))/\wx=wr)
    case first =>
     by_cases hlt2:j<Ts.length
     ·have hd:decide ((j:Int)<(Ts.length:Int))=true:=yw (by omega);have I8:=yK hlt2;clear hlt2
      cases ok with
      | false =>
       go_wp2_with fail
       go_meet
       case rel=>exact⟨true,rfl,yK ⟨λ _=>⟨I8.o,by trivial⟩,λ _=>rfl⟩,rfl⟩
      | true =>
       go_wp2_with fail
       go_meet
       case rel=>exact⟨false,rfl,yK ⟨λ h=>(by cases h),λ h=>(by cases h.2)⟩,rfl⟩
     have hd:decide ((j:Int)<(Ts.length:Int))=false:=yv (by omega);have I8:=yK hlt2;clear hlt2;go_wp2_with fail
     go_meet
     case rel=>exact⟨false,rfl,yK ⟨λ h=>(by cases h),λ h=>absurd h.1 I8.o⟩,rfl⟩
    obtain⟨r,rfl,HX,rfl⟩:=hcut
    cases r with
    | true =>
     obtain⟨J7,rfl⟩:=HX.o.1 rfl;obtain⟨d',O9⟩:∃ d',d=d'+1:=by
      cases d with
      | zero=>have:=C1.o;simp[okP]at this
      | succ d'=>exact⟨d',rfl⟩
     have H0:wrap64 ((d:Int)-1)=(d':Int):=(by have:=HN.o.2;unfold wrap64;omega);have HD:=yK O9;clear O9;obtain⟨u,hu,A,D5,O⟩:=(U.o.2.1.below HW.o).get (zeD (g:=t.ground) (Ts:=Ts) (n:=m) (d:=d) (k:=k) (i:=d') (by have:=HD.o;omega) (by have:=HD.o;omega));obtain⟨cj,I5⟩:∃ cj,(canRow t.ground Ts d')[j]?=some cj:=⟨_,yb (by rw[zal];exact J7)⟩;obtain⟨gu,cu,rfl,C3⟩:=qhS O I5;rw[zal]at A;obtain⟨Tj,M0⟩:∃ Tj,Ts[j]?=some Tj:=⟨_,yb J7⟩;obtain⟨Sj,E4⟩:∃ Sj,Ss[j]?=some Sj:=⟨_,yb (by rw[J4.o];exact J7)⟩;obtain⟨sp,sn,sc,L4,W9,⟨s0,s1,s2⟩,I0⟩:=S;have F9:=(HW.o.block _ (ya.1 P2.o).1).trans P2.o;have N7:Below B1 w6 wc:=U.o.1.trans (HW.o.mono (by have:=U.o.1.size;rw[B8.o]at this;exact this));obtain⟨A4,B0⟩:=E6.o wc λ b hb _=>N7.block b hb;obtain⟨V8,I9,J⟩:=A4.at_ (by rintro e;rw[e]at E4;simp at E4)
     cases I9
     have d1:∀ d:SubW wc,d.1.cell? ⟨B1,d',none⟩=some (.slice (some ⟨gu,0,none⟩) Ts.length cu):=λ d=>qw d.2 A;have d2:∀ d:SubW wc,d.1.cell? ⟨gu,j,none⟩=some (.bool cj):=λ d=>qw d.2 C3;have ld:∀ d:SubW wc,(Instr.loadAt 108 (.pointer (some (xa.add (j*16))))).run Tryz.prog d.1=.ok (.agg (hsVals Sj).toArray) d.1:=λ d=>zn (P:=Tryz.prog) (R:=RS) underlying108 rfl sizeS (J.below d.2) E4;have d5:∀ d:SubW wc,d.1.cell? ⟨sb,5,none⟩=some (.int .u64 s0):=λ d=>by simp[World.cell?,d.block F9,hsVals]
     have d6:∀ d:SubW wc,d.1.cell? ⟨sb,6,none⟩=some (.int .u64 s1):=λ d=>by simp[World.cell?,d.block F9,hsVals]
     have d7:∀ d:SubW wc,d.1.cell? ⟨sb,7,none⟩=some (.int .u64 s2):=λ d=>by simp[World.cell?,d.block F9,hsVals]
     have J1:Sj.joint=wordsE (jointT Tj) L:=(B0 j Sj Tj E4 M0).1.joint;have H7:(s0,s1,s2)=wordsE (jointT T) L:=E7.o;obtain⟨ov,B5⟩:∃ ov,ovP t.ground (jointT Tj) (jointT T)=ov:=⟨_,rfl⟩;have B3:Hid (∀ d:SubW wc,Calls Tryz.prog 74 #[.agg (hsVals Sj).toArray,.agg #[.int .u64 s0,.int .u64 s1,.int .u64 s2]] d.1 λ e w'=>e=.returned (.bool ov)/\∃ d':SubW wc,w'=d'.1):=yK λ d=>by
      have h1:=zeU Sj (s0,s1,s2) (by rw[J1];exact D3.o _) (by rw[H7];exact D3.o _) d.1;refine Calls.mono (show Calls Tryz.prog 74 _ _ _ from h1) ?_;rintro e w' ⟨rfl,hb⟩;refine⟨?_,⟨w',d.2.tm hb⟩,rfl⟩;have:decide (andW Sj.joint (s0,s1,s2)=(0,0,0))=ov:=by
       rw[J1,H7,<- B5,Bool.eq_iff_iff,yS];exact Q3.o _ _
      rw[this]
     have C8:Hid (okP t.ground Ts d k (j+1)=(cj&&ov)):=yK (by
      have h1:=zhe (g:=t.ground) M0 I5 C9.o;have h2:=C1.o;rw[HD.o]at h2 ⊢;rw[h1,h2,B5];rfl)
     have C7:(d':Int)<(m:Int):=(by have:=HD.o;omega);have G3:(j:Int)<(Ts.length:Int):=(by omega);clear hu A D5 O I5 C3 M0 E4 F9 N7 A4 B0 J J1 H7 B5;go_upto_region 26 with fail
     cases cj with
     | false =>
      refine zg 18 (by kernel_rfl) (by kernel_rfl) ?_;simp only[yh,yj,yi,yl]
      repeat (go_big_quiet_step (exact B3.o _))
      refine wpQuiet_nil ?_;intro dq;have D:=yK (HW.o.tm dq.2);clear d1 d2 ld d5 d6 d7 B3;revert D;generalize dq.1=w9;intro D;clear H0 C7 G3;have J0:Ts.length<=1000:=D7.o;go_wp2_with fail
      go_roundw
      case rel=>exact⟨j+1,by omega,by go_num,by rw[C8.o];rfl,D⟩
      case measure=>simp only[intOf];omega
     | true =>
      refine zg 18 (by kernel_rfl) (by kernel_rfl) ?_;simp only[yh,yj,yi,yl]
      repeat (go_big_quiet_step (exact B3.o _))
      go_big_quiet_want;refine qed 108 _ rfl rfl (by rintro w ⟨d,rfl⟩;exact ld d) ?_;simp only[Act.put,yr,yF,yE];go_big_quiet_on
      repeat (go_big_quiet_step (exact B3.o _))
      refine wpQuiet_nil ?_;intro dq;have D:=yK (HW.o.tm dq.2);clear d1 d2 ld d5 d6 d7 B3;revert D;generalize dq.1=w9;intro D;clear H0 C7 G3;have J0:Ts.length<=1000:=D7.o;go_wp2_with fail
      go_roundw
      case rel=>exact⟨j+1,by omega,by go_num,by rw[C8.o,Bool.true_and],D⟩
      case measure=>simp only[intOf];omega
    | false =>
     have Q1:Hid ((canRow t.ground Ts d)[k]?=some ok):=yK (by
      have h1:=zhY (g:=t.ground) (Ts:=Ts) (d:=d) (k:=k) (j:=j) V (by
       rw[C1.o]
       cases ok with
       | true=>exact .inl rfl
       | false =>
        refine .inr ?_;have h2:¬ j<Ts.length:=λ h=>by
         have:=HX.o.2 ⟨h,rfl⟩;cases this
        omega)
      rw[C1.o]at h1;exact h1)
     have O8:=yK (zhs (n:=m) Q1.o);have H5:=yK (U.o.2.1.below HW.o);obtain⟨u,hu,A,D5,O⟩:=H5.o.get (zd5 (g:=t.ground) (Ts:=Ts) (n:=m) (d:=d) (k:=k) hlt);have S7:=yK (zd5 (g:=t.ground) (Ts:=Ts) (n:=m) (d:=d) (k:=k) hlt);obtain⟨ls,L6⟩:∃ ls,(canRow t.ground Ts d).take k=ls:=⟨_,rfl⟩;have M2:ls.length=k:=(by rw[<- L6,Yf,zal];omega);rw[L6]at O O8 S7;obtain⟨up,uc,rfl⟩:=zf O;have T2:=yK hu;have E3:=yK O;have B7:=yK M2;have I7:Hid (B1<=wc.heap.size):=yK (by have h1:=U.o.1.size;have h2:=HW.o.size;rw[B8.o]at h1;omega);have X3:=D7.o;obtain⟨iB,V7,V0,W0,T3⟩:=info_parts infoBool;have W4:Hid (ls.length+1<=maxLen):=yK (by simp only[maxLen];omega);have V2:Hid ((ls.length+1)*1<=140737488355328):=yK (by omega);have S9:=yK (zI (cs:=[.bool ok]) (yd wc (.cells #[.bool ok] 4)));clear hu L6 M2 O;have C7:(d:Int)<(m:Int):=(by omega);go_upto_region 27 with fail;go_upto_region 28 with (first
      | (at_builtin;refine wpList_append_own_at (P:=Tryz.prog) _ rfl _ _ 88 rfl B1 4 iB _ 1 1 underlying88 V7 V0 W0 T3 rfl (by decide) (.slice up ls.length uc) ls.length (RB.cells ls) rfl (qf E3.o ((yf _ wc).alloc (ye _) _)) ⟨wc.heap.size,0,none⟩ 1 1 [.bool ok] rfl rfl S9.o (by simp[Value.oneCell']) W4.o V2.o (by rw[yp];have:=I7.o;omega) ?_;intro v' w9 hown' hgrow _ J;obtain⟨p',c',rfl⟩:=zf hown';obtain⟨T4,V5⟩:=(H5.o.below ((yf _ wc).alloc (ye _) _)).outer_kept (i:=d) (by decide) (qf E3.o ((yf _ wc).alloc (ye _) _)) hgrow (qw ((yf _ wc).alloc (ye _) _) A)))
     have A9:=(H5.o.below ((yf _ wc).alloc (ye _) (.cells #[.bool ok] 4))).grow (by decide) U.o.2.2 T2.o S7.o hgrow (RB.own_snoc hown') J;have Q5:Below B1 w6 (w9.setCell ⟨B1,d,none⟩ (.slice p' (ls.length+1) c')):=(((U.o.1.trans (HW.o.mono (by have h1:=U.o.1.size;rw[B8.o]at h1;exact h1))).alloc (by have h1:=I7.o;exact h1) (.cells #[.bool ok] 4)).grown hgrow (by rw[yp];have:=I7.o;omega) λ b e=>(qg E3.o e).1).trans (zaK (W:=w9) (B:=B1) (a:=⟨B1,d,none⟩) (ye _) _);have D2:=yK (And.intro Q5 (And.intro A9.1 A9.2));clear Q5 A9 hgrow hown' J T4 V5 A D5 C7;revert D2;generalize w9.setCell ⟨B1,d,none⟩ (.slice p' (ls.length+1) c')=w10;intro D2;go_wp2_with fail
     go_roundw
     case rel=>exact⟨k+1,_,by omega,by go_num,yK ⟨D2.o.1,by rw[<- O8.o];exact D2.o.2.1,D2.o.2.2⟩⟩
     case measure=>simp only[intOf];omega
   obtain rfl:k=Ts.length:=(by omega);have X1:m<=5:=HN.o.2;go_wp2_with fail
   go_roundw
   case rel=>exact⟨d+1,us,by omega,by go_num,yK (by rw[<- zge];exact HR.o)⟩
   case measure=>simp only[intOf];omega
  obtain rfl:m=d:=by omega
  have P5:wrap64 ((m:Int)-1)=(m:Int)-1:=by have:=HN.o.2;unfold wrap64;omega
  have HC:=yK HR.o.2.1;have L5:Hid (∀ k,k<B1->k≠w3.heap.size->wr.heap[k]?=w6.heap[k]?):=yK λ k hk _=>HR.o.1.block k hk;have F5:Hid (w3.heap.size<B1/\wr.heap[w3.heap.size]?=some (.cells #[.int .u64 b0,.int .u64 b1,.int .u64 b2] 105 (0,0))):=yK (by
   have h1:=(ya.1 I3.o).1;rw[B8.o]at h1;exact⟨h1,(HR.o.1.block _ h1).trans I3.o⟩)
  have D:Hid (Below w.heap.size w wr/\B1<=wr.heap.size):=yK ⟨F2.o.trans (HR.o.1.mono (by rw[<- B8.o];exact F2.o.size)),by rw[<- B8.o];exact HR.o.1.size⟩;clear HR hlt;go_wp2_with fail;clear P5;obtain⟨w9,M9⟩:∃ w9,w9=wr:=⟨_,rfl⟩;rw[<- M9]at HC L5 F5 D ⊢;clear M9;obtain⟨B2,C6⟩:∃ B2,w9.heap.size=B2:=⟨_,rfl⟩;have H:=yK C6;clear C6;obtain⟨P0,M4⟩:∃ P:E->Bool,(λ e=>decide (e∈t.below))=P:=⟨_,rfl⟩;rw[M4]at B6 O6;clear M4;go_loopw [19,20] (λ u z wr=>∃ (c:Nat) (z0:Int) (us:List Value) (pl:List (List Pc)) (P:E->Bool),c<=m/\z=.int .i64 z0/\z0+1=(c:Int)/\Hid (BelowBut B2 w3.heap.size w9 wr/\wr.heap[w3.heap.size]?=some (.cells (zas (wordsE P L)).toArray 105 (0,0))/\OwnLs RL 31 wr B2 u us (pl.map λ T=>T.map (·.ld))/\planT t.ground Ts m P0=(planT t.ground Ts c P).map (pl++·)/\pl.length+c=m)) (λ _ z _=>(intOf z+1).toNat)
  case atStart=>exact⟨m,_,[],[],P0,ye _,rfl,by have:=HN.o;unfold wrap64;omega,yK ⟨BelowBut.refl _ _ _,by rw[O6.o];exact F5.o.2,OwnLs.nil _ _ _ _,by simp,by simp⟩⟩
  obtain⟨c,z0,ps,pl,P,W8,rfl,R2,HR⟩:=hrel;by_cases hc0:c=0
  case pos =>
   have hd:decide ((0:Int)<=z0)=false:=yv (by omega);have A0:=yK hc0;clear hc0 R2;have Q0:Hid (layersT t m=(pl.map λ T=>T.map (·.ld),0)):=yK (by
    have h1:=HR.o.2.2.2.1;rw[A0.o]at h1;rw[B6.o,h1];simp[planT])
   go_wp2_with fail;rw[<- D1.o];refine⟨_,ps,0,rfl,qcE D.o.1 H8.o.size D.o.1.size (by rw[H.o];exact HR.o.1),.inr ⟨X.o,by have:=HN.o.1;omega,by have:=HN.o.2;omega,?_,?_⟩⟩
   ·rw[Int.toNat_natCast,Q0.o];exact HR.o.2.2.1.wider (by rw[<- H.o];exact D.o.1.size)
   rw[Int.toNat_natCast,Q0.o]
  obtain⟨c',rfl⟩:∃ c',c=c'+1:=⟨c-1,by omega⟩;obtain rfl:z0=(c':Int):=by omega
  have hd:decide ((0:Int)<=(c':Int))=true:=yw (by omega);have G0:c'<m:=by omega
  clear hc0 R2;obtain⟨wl,T7⟩:∃ z,z=wr:=⟨_,rfl⟩;subst T7;have G7:(canP t.ground Ts m m 0)[c']?=some (canRow t.ground Ts c'):=zeD G0 G0;have Q7:=HR.o.1.size;rw[H.o]at Q7;have A8:OwnLs RB 88 wl B1 (.slice (some ⟨B1,0,none⟩) m m) vs (canP t.ground Ts m m 0):=HC.o.move λ k h1 h2=>HR.o.1.block k (by rw[<- H.o];exact h2) (by have:=F5.o.1;omega);obtain⟨u,hu,A,D5,O⟩:=A8.get G7;have J6:Hid (∀ W,Below wl.heap.size wl W->W.cell? ⟨B1,c',none⟩=some u):=yK λ W h=>qw h A;have E3:Hid (∀ W,Below wl.heap.size wl W->RB.Own W B1 u (canRow t.ground Ts c')):=yK λ W h=>qf O h;have T6:Hid (∀ W,Below wl.heap.size wl W->∀ k,k<B1->k≠w3.heap.size->W.heap[k]?=w6.heap[k]?):=yK λ W h k h1 h2=>by
   have h3:=D.o.2;rw[H.o]at h3;rw[h.block k (by omega),HR.o.1.block k (by omega) h2];exact L5.o k h1 h2
  have R1:Hid (∀ W,Below wl.heap.size wl W->W.heap[w3.heap.size]?=some (.cells (zas (wordsE P L)).toArray 105 (0,0))):=yK λ W h=>(h.block _ (ya.1 HR.o.2.1).1).trans HR.o.2.1;clear G7 A8 hu A D5 O Q7;go_wp2_with fail;go_loopw [21,117] (λ x z wr=>∃ k:Nat,k<=Ts.length/\z=.int .i64 k/\x=.int .i64 (-1)/\Hid (Below wl.heap.size wl wr/\∀ (j:Nat) (y:List Pc) (b:Bool),j<k->Ts[j]?=some y->(canRow t.ground Ts c')[j]?=some b->(b&&ovP t.ground (jointT y) P)=false)) (λ _ z _=>Ts.length-(intOf z).toNat)
  case atStart=>exact⟨0,YC _,rfl,rfl,yK ⟨yf _ _,λ j y b hj=>absurd hj (Nat.not_lt_zero _)⟩⟩
  obtain⟨k,hk,rfl,rfl,Y⟩:=hrel;have S8:Hid (Below w.heap.size w wr):=yK ((qcE D.o.1 H8.o.size D.o.1.size (by rw[H.o];exact HR.o.1)).trans (Y.o.1.mono (by have h1:=D.o.1.size;have h2:=HR.o.1.size;omega)));by_cases V:k<Ts.length
  case neg =>
   obtain rfl:k=Ts.length:=(by omega);have L8:Hid (layersT t m=([],7)):=yK (by
    have h1:=HR.o.2.2.2.1;have h2:=qgB (g:=t.ground) (Ts:=Ts) (d:=c') (P:=P) λ j y b hy hb=>Y.o.2 j y b (yc.1 hy).1 hy hb;rw[B6.o,h1];unfold planT;rw[h2];rfl)
   go_wp2_with fail;rw[<- D1.o];exact zbR X.o HN.o.1 HN.o.2 S8.o L8.o
  obtain⟨T,hT⟩:∃ T,Ts[k]?=some T:=⟨_,yb V⟩;obtain⟨S,hS⟩:∃ S,Ss[k]?=some S:=⟨_,yb (by rw[J4.o];exact V)⟩;obtain⟨A4,B0⟩:=E6.o wr (T6.o wr Y.o.1);obtain⟨xa,rfl,J⟩:=A4.at_ (by rintro e;rw[e]at hS;simp at hS);have E5:(Instr.loadAt 108 (.pointer (some (xa.add (k*16))))).run Tryz.prog wr=.ok (.agg (hsVals S).toArray) wr:=zn (P:=Tryz.prog) (R:=RS) underlying108 rfl sizeS J hS;have D4:(Tryz.prog.info? 108).map (·.size)=some (hsVals S).toArray.size:=sizeS;have A6:(hsVals S).toArray.all (·.oneCell')=true:=by simp[hsVals,Value.oneCell']
  obtain⟨ck,J9⟩:∃ ck,(canRow t.ground Ts c')[k]?=some ck:=⟨_,yb (by rw[zal];exact V)⟩;obtain⟨gu,cu,rfl,C5⟩:=qhS (E3.o wr Y.o.1) J9;have A:=J6.o wr Y.o.1;rw[zal]at A;obtain⟨⟨p0,p1,p2⟩,M1⟩:∃ p,wordsE P L=p:=⟨_,rfl⟩;have E1:=R1.o wr Y.o.1;rw[M1]at E1;have O3:=yK M1;have E7:Hid (S.joint=wordsE (jointT T) L):=yK (B0 k S T hS hT).1.joint;have C9:=yK hT;have D8:=yK hS;have E8:=yK J9;have C:Below wr.heap.size wr (wr.alloc (.cells (hsVals S).toArray 108)):=(yf _ wr).alloc (ye _) _;have e0:(wr.alloc (.cells (hsVals S).toArray 108)).cell? ⟨w3.heap.size,0,none⟩=some (.int .u64 p0):=qw C (by simp only[World.cell?,E1];rfl);have e1:(wr.alloc (.cells (hsVals S).toArray 108)).cell? ⟨w3.heap.size,1,none⟩=some (.int .u64 p1):=qw C (by simp only[World.cell?,E1];rfl);have e2:(wr.alloc (.cells (hsVals S).toArray 108)).cell? ⟨w3.heap.size,2,none⟩=some (.int .u64 p2):=qw C (by simp only[World.cell?,E1];rfl);have e3:=qw C A;have e4:=qw C C5;have A2:=yd wr (.cells (hsVals S).toArray 108);have B4:=yK (Y.o.1.tm C);clear hT hS A4 B0 J J9 C5 A M1 E1 C;go_upto_region 38 with (first
   | (refine qo rfl 108 _ rfl rfl E5 ?_)
   | (refine wpList_store_row rfl 108 _ _ rfl wr.heap.size rfl 108 _ (hsVals S).toArray rfl (yd wr _) D4 rfl A6 ?_;rw[World.setRow_alloc_new]))
  try simp only[Act.put]
  clear E5;revert e0 e1 e2 e3 e4 A2 B4;change _->_->_->_->_->_->_->Code.wp _ _ _ _ (wr.alloc (.cells (hsVals S).toArray 108));generalize wr.alloc (.cells (hsVals S).toArray 108)=w11;intro e0 e1 e2 e3 e4 A2 B4;have C7:(c':Int)<(m:Int):=by omega
  have O5:(k:Int)<(Ts.length:Int):=by omega
  cases ck with
  | false =>
   have C8:Hid (∀ (j:Nat) (y:List Pc) (b:Bool),j<k+1->Ts[j]?=some y->(canRow t.ground Ts c')[j]?=some b->(b&&ovP t.ground (jointT y) P)=false):=yK λ j y b hj hy hb=>by
    rcases (by omega:j<k\/j=k)with h|rfl
    ·exact Y.o.2 j y b h hy hb
    rw[E8.o]at hb;cases hb;rfl
   have J0:Ts.length<=1000:=D7.o;go_wp2_with fail
   go_roundw
   case rel=>exact⟨k+1,by omega,by go_num,rfl,yK ⟨B4.o,C8.o⟩⟩
   case measure=>simp only[intOf];omega
  | true =>
   obtain⟨ov,B5⟩:∃ ov,ovP t.ground (jointT T) P=ov:=⟨_,rfl⟩;have G6:Hid (Calls Tryz.prog 74 #[.agg (hsVals S).toArray,.agg #[.int .u64 p0,.int .u64 p1,.int .u64 p2]] w11 λ e w'=>e=.returned (.bool ov)/\Below w11.heap.size w11 w'):=yK (by
    have h1:=zeU S (p0,p1,p2) (by rw[E7.o];exact D3.o _) (by rw[<- O3.o];exact D3.o _) w11;refine Calls.mono (show Calls Tryz.prog 74 _ _ _ from h1) ?_;rintro e w' ⟨rfl,hb⟩;refine⟨?_,hb⟩;have:decide (andW S.joint (p0,p1,p2)=(0,0,0))=ov:=by
     rw[E7.o,<- O3.o,<- B5,Bool.eq_iff_iff,yS];exact Q3.o _ _
    rw[this])
   have H1:=yK B5;clear B5;obtain⟨sp,sn,sc,L4,⟨q0,q1,q2⟩,⟨s0,s1,s2⟩,I0⟩:=S;have F:∀ j,w11.cell? ⟨wr.heap.size,j,none⟩=(hsVals ⟨sp,sn,sc,L4,(q0,q1,q2),(s0,s1,s2),I0⟩)[j]?:=λ j=>by simp only[World.cell?,A2];simp
   have g0:=F 0;have g1:=F 1;have g2:=F 2;have g3:=F 3;have g4:=F 4;have g5:=F 5;have g6:=F 6;have g7:=F 7;have g8:=F 8;have g9:=F 9;have P6:=F 10;have N2:=F 11;have R5:=F 12;have N5:=F 13;have M5:=F 14;have P8:=F 15;simp[hsVals]at g0 g1 g2 g3 g4 g5 g6 g7 g8 g9 P6 N2 R5 N5 M5 P8;clear F A2 D4 A6;go_wp2_with fail;refine Calls.mono (show Calls Tryz.prog 74 #[.agg _,.agg #[.int .u64 p0,.int .u64 p1,.int .u64 p2]] w11 _ from G6.o) ?_;rintro e w12 ⟨rfl,G4⟩;clear g0 g1 g2 g3 g4 g5 g6 g7 g8 g9 P6 N2 R5 N5 M5 P8;have A3:=yK (B4.o.tm G4);clear G4 B4 G6 e0 e1 e2 e3 e4
   cases ov with
   | false =>
    have C8:Hid (∀ (j:Nat) (y:List Pc) (b:Bool),j<k+1->Ts[j]?=some y->(canRow t.ground Ts c')[j]?=some b->(b&&ovP t.ground (jointT y) P)=false):=yK λ j y b hj hy hb=>by
     rcases (by omega:j<k\/j=k)with h|rfl
     ·exact Y.o.2 j y b h hy hb
     rw[C9.o]at hy;cases hy;rw[H1.o,Bool.and_false]
    have J0:Ts.length<=1000:=D7.o;go_wp2_with fail
    go_roundw
    case rel=>exact⟨k+1,by omega,by go_num,rfl,yK ⟨A3.o,C8.o⟩⟩
    case measure=>simp only[intOf];omega
   | true =>
    have M6:Hid (planT t.ground Ts (c'+1) P=(planT t.ground Ts c' (jointT T)).map (T :: ·)):=yK (zfO (zhX (g:=t.ground) (Ts:=Ts) (d:=c') (P:=P) C9.o E8.o H1.o Y.o.2));have H2:decide ((k:Int)<0)=false:=yv (by omega);go_upto_region 43 with fail;obtain⟨Sx,H3⟩:∃ Sx:HS,Sx=⟨sp,sn,sc,L4,(q0,q1,q2),(s0,s1,s2),I0⟩:=⟨_,rfl⟩;rw[<- H3]at D8;have Q4:Hid (Sx.joint=wordsE (jointT T) L):=yK (by rw[H3];exact E7.o);clear H3 H2 C7 O5;have M7:Hid (k<Ts.length):=yK V;have N3:Hid (w3.heap.size<B2):=yK (by have h1:=F5.o.1;have h2:=D.o.2;rw[H.o]at h2;omega);have D0:Hid (B2<=w12.heap.size):=yK (by have h1:=HR.o.1.size;have h2:=A3.o.size;rw[H.o]at h1;omega);have J2:Hid (∀ W,BelowBut B2 w3.heap.size w9 W->RS.At W xa Ss/\RP.Has W Sx.laid (T.map (hpT t.ground L))):=yK λ W h=>by
     obtain⟨h1,h2⟩:=E6.o W λ b hb hn=>(h.block b (by have h3:=D.o.2;rw[H.o]at h3;omega) hn).trans (L5.o b hb hn);obtain⟨V8,I9,J⟩:=h1.at_ (by rintro e;have:=D8.o;rw[e]at this;simp at this)
     cases I9
     exact⟨J,(h2 k Sx T D8.o C9.o).2⟩
    have T1:Hid ((T.map (hpT t.ground L)).map (·.ld)=T.map (·.ld)):=yK (by rw[List.map_map];rfl);obtain⟨N,C4⟩:∃ N,(pl.map λ T=>T.map (·.ld))=N:=⟨_,rfl⟩;have W6:=yK C4;have R9:Hid (OwnLs RL 31 wl B2 u19 ps N):=yK (by rw[<- C4];exact HR.o.2.2.1);have S4:Hid (N.length<=m):=yK (by have:=HR.o.2.2.2.2;rw[<- C4,yB];omega);clear C4;have V4:Hid (N.length+1<=maxLen):=yK (by have:=S4.o;have:=HN.o.2;simp only[maxLen];omega);have W2:Hid ((N.length+1)*24<=140737488355328):=yK (by have:=S4.o;have:=HN.o.2;omega);have G:=@zgu u19 Ts.length vc k xa Sx (T.map (·.ld)) ps N B2 w12.heap.size w3.heap.size;have M:=@qeM w9 u19 ps N (zas (wordsE P L)).toArray B2 w12.heap.size w3.heap.size;refine zT 153 (by kernel_rfl) (by kernel_rfl) rfl (FamJ (lyF u19 Ts.length vc k xa Sx (T.map (·.ld)) ps N B2 w12.heap.size w3.heap.size) lyD lyR (lyB w9 u19 ps N (zas (wordsE P L)).toArray B2 w12.heap.size w3.heap.size))
     (FamJ.start ⟨HR.o.1.trans (.of_below (A3.o.drew.mono (by have h1:=HR.o.1.size;rw[H.o]at h1;exact h1))),ye _,λ _=>R9.o.below A3.o.drew,λ _=>R1.o _ A3.o.drew⟩ _) ?_ ?_
    ·refine⟨?_,?_,?_,?_,?_,?_,?_,?_,?_,?_,?_,?_,?_,?_,?_,trivial⟩
     ·intro L1 b W vals hL hD hC K hJ;have V1:b.eval (.tmp 19)=u19:=(K.was 19 (by kernel_rfl)).trans rfl;refine qO rfl ?_;rw[V1];exact (hJ.still G M hL (by intro j hj;simp[lyR]at hj) rfl)
     ·intro L1 b W vals hL hD hC K hJ;have e9:b.eval (.tmp 9)=(.slice (some xa) Ts.length vc):=(K.was 9 (by kernel_rfl)).trans rfl;refine qO rfl ?_;rw[e9];exact (hJ.still G M hL (by intro j hj;simp[lyR]at hj) rfl)
     ·intro L1 b W vals hL hD hC K hJ;have I1:b.eval (.tmp 21)=(.int .i64 k):=(K.was 21 (by kernel_rfl)).trans rfl;refine qO rfl ?_;rw[I1];exact (hJ.still G M hL (by intro j hj;simp[lyR]at hj) rfl)
     ·intro L1 b W vals hL hD hC K hJ;obtain⟨P1,_⟩:=K.val 1 140 (by kernel_rfl);obtain⟨N6,_⟩:=K.val 2 141 (by kernel_rfl);have f1:=hJ.get 1 (hD 1 (by kernel_rfl)) (by intro j hj;simp[lyD]at hj);have f2:=hJ.get 2 (hD 2 (by kernel_rfl)) (by intro j hj;simp[lyD]at hj);refine lu_v (I:=Instr.indexAt 96 (b.eval (.tmp 140)) (b.eval (.tmp 141))) rfl ?_ (hJ.still G M hL (by intro j hj;simp[lyR]at hj) rfl);rw[P1,f1,N6,f2];exact qcQ W xa M7.o
     ·intro L1 b W vals hL hD hC K hJ;obtain⟨O1,_⟩:=K.val 3 142 (by kernel_rfl);have f3:=hJ.get 3 (hD 3 (by kernel_rfl)) (by intro j hj;simp[lyD]at hj);refine lu_v (I:=Instr.loadAt 108 (b.eval (.tmp 142))) rfl ?_ (hJ.still G M hL (by intro j hj;simp[lyR]at hj) rfl);rw[O1,f3];exact zn (P:=Tryz.prog) (R:=RS) underlying108 rfl sizeS (J2.o W hJ.base.1).1 D8.o
     ·intro L1 b W vals hL hD hC K hJ;obtain⟨S5,_⟩:=K.val 4 143 (by kernel_rfl);have f4:=hJ.get 4 (hD 4 (by kernel_rfl)) (by intro j hj;simp[lyD]at hj);have g4:vals 4=.agg (hsVals Sx).toArray:=f4;refine qX (args:=#[RS.val Sx]) rfl (by simp only[Yu,yM,Yi,S5,g4];rfl) (enters_of func76 (by kernel_rfl) rfl) ((zci Sx (T.map (hpT t.ground L)) W (J2.o W hJ.base.1).2 (by rw[yB];have:=I6.o T (yg C9.o);omega)).mono ?_);rintro e W' ⟨u,rfl,ho,hb⟩;rw[T1.o]at ho;exact⟨u,rfl,hJ.step G hL (by intro j hj;simp[lyR]at hj) (zeo hJ.base D0.o (λ j hj=>by simp[hj]) hb) (zB ho hJ.base.2.1) (λ k hk hd hF=>qeE hb hF)⟩
     ·intro L1 b W vals hL hD hC K hJ;have n7:L1 7=false:=zx hC hL (by decide) (by kernel_rfl);obtain⟨R6,_⟩:=K.val 5 144 (by kernel_rfl);have f5:=hJ.get 5 (hD 5 (by kernel_rfl)) (by intro j hj;simp[lyD]at hj;subst hj;exact n7);obtain⟨p5,c5,h5⟩:=zf f5;obtain⟨iI,L3,J3,E2,N9⟩:=info_parts infoLs;refine zac rfl R6 underlying68 L3 J3 (by rw[E2];decide) (by rw[E2];decide) (cells:=([vals 5]:List Value).toArray) (by rw[E2,h5];exact Great.fill_flat [.slice p5 _ c5] _ (λ v hv=>by simp only[yU]at hv;subst hv;rfl) (by simp)) ?_;have hb:Below W.heap.size W (W.alloc (.cells ([vals 5]:List Value).toArray 31)):=(yf _ W).alloc (ye _) _;exact hJ.step G hL (by intro j hj;simp[lyR]at hj;subst hj;exact hD _ (by kernel_rfl)) (zeo hJ.base D0.o (λ j hj=>by simp[hj]) hb) (show ∃ g,_ from⟨W.heap.size,by simp,hJ.base.2.1,by simpa using yd W _⟩) (λ k hk hd hF=>qeE hb hF)
     ·intro L1 b W vals hL hD hC K hJ;have F7:L1 14=false:=zx hC hL (by decide) (by kernel_rfl);have N0:L1 5=true:=(hJ.each 6 (hD 6 (by kernel_rfl))).1 5 (by simp[lyR]);obtain⟨O0,_⟩:=K.val 0 139 (by kernel_rfl);obtain⟨R7,_⟩:=K.val 6 145 (by kernel_rfl);have f0:=hJ.get 0 (hD 0 (by kernel_rfl)) (by intro j hj;simp[lyD]at hj);have f6:=hJ.get 6 (hD 6 (by kernel_rfl)) (by intro j hj;simp[lyD]at hj;subst hj;exact hL);have f5:=hJ.get 5 N0 (by intro j hj;simp[lyD]at hj;subst hj;exact hL);obtain⟨gn,hv,_,T0⟩:=f6;obtain⟨p5,c5,h5⟩:=zf f5;obtain⟨iI,L3,J3,E2,N9⟩:=info_parts infoLs;have hq:=hJ.base.2.2.1 hL;obtain⟨v',W',hr,ho,A9,_,J⟩:=run_append_own_at (P:=Tryz.prog) W B2 68 68 31 iI _ 1 24 underlying68 L3 J3 E2 N9 rfl (by decide) u19 N.length ps hq.own ⟨gn,0,none⟩ 1 1 [vals 5] rfl (zI T0) (λ x hx=>by simp only[yU]at hx;subst hx;rw[h5];rfl) V4.o W2.o (yJ D0.o hJ.base.2.1);refine zab rfl (O0.trans f0) (R7.trans hv) hr ?_;have F3:BelowBut B2 w3.heap.size w9 W':=hJ.base.1.grown A9 (yJ D0.o hJ.base.2.1) λ k hk=>.inl (qg hq.own hk).1;have S6:W'.heap[w3.heap.size]?=W.heap[w3.heap.size]?:=A9.block _ (ya.1 (hJ.base.2.2.2 F7)).1 λ e=>by have h1:=(qg hq.own e.symm).1;have h2:=N3.o;omega
      exact hJ.step G hL (by intro j hj;simp[lyR]at hj;subst hj;exact N0) ⟨F3,yJ hJ.base.2.1 A9.size,λ h=>by simp at h,λ h=>S6.trans (hJ.base.2.2.2 F7)⟩ (OwnLs.snoc (by decide) hq (zB f5 D0.o) ho A9) (λ k hk hd hF=>zhG (i:=k) (by rintro rfl;have:=hd 7 (by simp[lyD]);simp at this) (by rintro rfl;have:=hd 7 (by simp[lyD]);simp at this) (by rintro rfl;rw[hk]at hL;cases hL) (by rintro rfl;rw[hk]at F7;cases F7) hF)
     ·intro L1 b W vals hL hD hC K hJ;have e9:b.eval (.tmp 9)=(.slice (some xa) Ts.length vc):=(K.was 9 (by kernel_rfl)).trans rfl;refine qO rfl ?_;rw[e9];exact (hJ.still G M hL (by intro j hj;simp[lyR]at hj) rfl)
     ·intro L1 b W vals hL hD hC K hJ;have I1:b.eval (.tmp 21)=(.int .i64 k):=(K.was 21 (by kernel_rfl)).trans rfl;refine qO rfl ?_;rw[I1];exact (hJ.still G M hL (by intro j hj;simp[lyR]at hj) rfl)
     ·intro L1 b W vals hL hD hC K hJ;obtain⟨Q2,_⟩:=K.val 8 147 (by kernel_rfl);obtain⟨S1,_⟩:=K.val 9 148 (by kernel_rfl);have f8:=hJ.get 8 (hD 8 (by kernel_rfl)) (by intro j hj;simp[lyD]at hj);have f9:=hJ.get 9 (hD 9 (by kernel_rfl)) (by intro j hj;simp[lyD]at hj);refine lu_v (I:=Instr.indexAt 96 (b.eval (.tmp 147)) (b.eval (.tmp 148))) rfl ?_ (hJ.still G M hL (by intro j hj;simp[lyR]at hj) rfl);rw[Q2,f8,S1,f9];exact qcQ W xa M7.o
     ·intro L1 b W vals hL hD hC K hJ;obtain⟨N4,_⟩:=K.val 10 149 (by kernel_rfl);have T5:=hJ.get 10 (hD 10 (by kernel_rfl)) (by intro j hj;simp[lyD]at hj);refine lu_v (I:=Instr.fieldAt 108 (b.eval (.tmp 149)) 3) rfl (u:=_) ?_ (hJ.still G M hL (by intro j hj;simp[lyR]at hj) rfl);rw[N4,T5];kernel_rfl
     ·intro L1 b W vals hL hD hC K hJ;obtain⟨S2,_⟩:=K.val 11 150 (by kernel_rfl);have V6:=hJ.get 11 (hD 11 (by kernel_rfl)) (by intro j hj;simp[lyD]at hj);refine lu_v (I:=Instr.loadAt 105 (b.eval (.tmp 150))) rfl ?_ (hJ.still G M hL (by intro j hj;simp[lyR]at hj) rfl);rw[S2,V6];exact qfC (J2.o W hJ.base.1).1 D8.o
     ·intro L1 b W vals hL hD hC K hJ;obtain⟨Q6,_⟩:=K.val 7 146 (by kernel_rfl);refine qam rfl ?_;rw[Q6];exact (hJ.still G M hL (by intro j hj;simp[lyR]at hj;subst hj;exact hD _ (by kernel_rfl)) rfl)
     intro L1 b W vals hL hD hC K hJ;have e8:b.eval (.tmp 8)=(.pointer (some ⟨w3.heap.size,0,none⟩)):=(K.was 8 (by kernel_rfl)).trans rfl;obtain⟨S0,_⟩:=K.val 12 151 (by kernel_rfl);have T9:=hJ.get 12 (hD 12 (by kernel_rfl)) (by intro j hj;simp[lyD]at hj);refine zbI (t:=105) (g:=w3.heap.size) (cells:=(zas Sx.joint).toArray) rfl e8 (S0.trans T9) (hJ.base.2.2.2 hL) (show _=some (zas Sx.joint).toArray.size from zbG) (by simp[zas]) (by simp[zas,Value.oneCell']) ?_;exact hJ.step G hL (by intro j hj;simp[lyR]at hj) ⟨hJ.base.1.row _,by simpa using hJ.base.2.1,λ h=>by have h7:=hD 7 (by kernel_rfl);simp[h7]at h,λ h=>by simp at h⟩ (show (W.setRow w3.heap.size (zas Sx.joint).toArray).heap[w3.heap.size]?=_ from setRow_heap _ _ _ _ _ _ (hJ.base.2.2.2 hL)) (λ k hk hd hF=>zie N3.o D0.o _ (by rintro rfl;rw[hk]at hL;cases hL) hF)
    intro L1 vals W hL hJ;have f7:=hJ.get 7 (hL 7 (by decide)) (by intro j hj;simp[lyD]at hj);have N8:=hJ.get 13 (hL 13 (by decide)) (by intro j hj;simp[lyD]at hj);have Q8:=hJ.get 14 (hL 14 (by decide)) (by intro j hj;simp[lyD]at hj);have Q9:vals 13=vals 7:=N8;have W5:Hid (BelowBut B2 w3.heap.size w9 W/\W.heap[w3.heap.size]?=some (.cells (zas (wordsE (jointT T) L)).toArray 105 (0,0))/\OwnLs RL 31 W B2 (vals 7) (ps++[vals 5]) ((pl++[T]).map λ T=>T.map (·.ld))/\planT t.ground Ts m P0=(planT t.ground Ts c' (jointT T)).map ((pl++[T])++·)/\(pl++[T]).length+c'=m):=yK (by
     refine⟨hJ.base.1,?_,?_,?_,?_⟩
     ·rw[<- Q4.o];exact Q8
     ·rw[Ym,W6.o];exact f7
     ·rw[HR.o.2.2.2.1,M6.o,Option.map_map];congr 1
      funext l
      simp
     have:=HR.o.2.2.2.2;rw[yL,List.length_singleton];omega)
    have W7:wrap64 ((c':Int)-1)=(c':Int)-1:=(by have:=HN.o;unfold wrap64;omega);clear hJ hL f7 N8 Q8 G M;simp only[yA,yN,Yl,YE,Yk,Yg,yM,Yi,putAll,Act.put,yr,yF,yE,Q9];clear Q9;go_wp2_with fail
    go_roundw
    case rel=>exact⟨c',_,_,_,_,by omega,rfl,by omega,W5⟩
    case measure=>simp only[intOf];omega
def zS:Tk:=⟨zC 2 2,[zC 2 1],[2],[],[]⟩
def zeu:Tk:=⟨zC 3 1,[zC 2 1],[2],[],[]⟩
def tilA:List Ld:=[⟨0,false,0,0,0⟩,⟨0,false,0,0,1⟩]
def tilB:List Ld:=[⟨0,false,1,0,0⟩,⟨0,false,1,1,0⟩]
theorem zbA:OkT zS:=(qfv rfl).2 (by decide +kernel)
theorem qgb:OkT zeu:=(qfv rfl).2 (by decide +kernel)
theorem zeZ:countT zS=(2,1,5,0):=by decide +kernel
theorem qe5:firstT zS=(tilA,0):=by decide +kernel
theorem qbB:coversT zS tilA=(0,0)/\coversT zS tilB=(0,0)/\coversT zS (tilA.take 1)=(4,8):=by decide +kernel
theorem zdA:nextT zS (parts zS tilA)=(tilB,0)/\nextT zS (parts zS tilB)=([],7):=by decide +kernel
theorem zeS:layersT zS 2=([tilA,tilB],0):=by decide +kernel
theorem qfY:whyT zeu=(2,0):=by decide +kernel
end Go.Proofs.YtiinlplgloaanaaGreatDoor
