/- Plain: what chapter 7's known asks. -/
import Derived.Test.YtiinlplgloaanaaGreatDoorZzLayerTouches44
set_option linter.all false
set_option maxRecDepth 100000
set_option maxHeartbeats 16000000
namespace Go.Proofs.YtiinlplgloaanaaGreatDoor
open Go.Proofs.Tryz Go.RowKit
attribute [local go_sem] Oper.semAt_some
def qb7 (t:Tk) (n:Int) (w:World) (e:Ending) (w':World):Prop:=∃ (u:Value) (us:List Value) (code:Nat),e=.returned (.tuple #[u,.int .i64 code])/\Bw w w' /\
 ((u=.slice none 0 0/\((¬ OkT t/\code=2)\/(OkT t/\¬ (1<=n/\n<=5)/\code=3))) \/
  (OkT t/\1<=n/\n<=5/\OwnLs RL 31 w' w.heap.size u us (layersT t n.toNat).1/\code=(layersT t n.toNat).2))
theorem iY {t:Tk} {w w':World} {n:Nat} (ho:OkT t) (h1:1<=n) (h5:n<=5) (hB:Bw w w') {c:Nat} (hl:layersT t n=([],c)):qb7 t (n:Int) w (.returned (.tuple #[.slice none 0 0,.int .i64 c])) w' :=
 ⟨_,[],c,rfl,hB,.inr ⟨ho,by omega,by omega,by rw[YI,hl];exact OwnLs.nil _ _ _ _,by rw[YI,hl]⟩⟩
theorem infoBool:(Tryz.prog.info? 4).map (λ i=>(i.zero,i.size,i.bytes))=some (some (.bool false),1,1):=by kernel_rfl
theorem infoLs:(Tryz.prog.info? 31).map (λ i=>(i.zero,i.size,i.bytes))=some (some (.slice none 0 0),1,24):=by kernel_rfl
theorem wz {m:Nat} (h1:1<=m) (h5:m<=5) (w:World):(Instr.makeSlice 160 (.int .i64 m) (.int .i64 m)).run Tryz.prog w=.ok (.slice (some ⟨w.heap.size,0,none⟩) m m) (w.alloc (.cells (Array.replicate m (.slice none 0 0)) 88)):=by
 rcases (by omega:m=1\/m=2\/m=3\/m=4\/m=5)with rfl|rfl|rfl|rfl|rfl <;> kernel_rfl
theorem AS {t:Tk} (n:Int) (w:World) (vg vk vc vf vb:Value) (hg:HasQ w vg t.ground) (hk:HasQQ w vk t.kinds) (hc:RI.Has w vc t.counts) (hcf:flatV vc) (hf:RL.Has w vf t.fixed) (hb:RE.Has w vb t.below) (hcl:t.counts.length<=1000) (hbl:t.below.length<=1000000) (htb:TbAt w) :
  Calls Tryz.prog 32 #[.agg #[vg,vk,vc,vf,vb],.int .i64 n] w (qb7 t n w):=by
 obtain⟨gp,gc,rfl⟩:=hg.slice;obtain⟨kp,kc,rfl⟩:=hk.slice;obtain⟨cp,cc,rfl⟩:=hc.slice;obtain⟨fp,fc,rfl⟩:=hf.slice;obtain⟨bp,bc,rfl⟩:=hb.slice;have E4:Hid (∀ W,Below w.heap.size w W->Calls Tryz.prog 13 #[.agg (tA t gp gc kp kc cp cc fp fc bp bc)] W (CkPost t W)):=yK
  λ W h=>bE W _ _ _ _ _ (hg.below h) (hk.below h) (hc.below h) (hf.below h) (hb.below h) hcl hbl
 have J1:Hid (∀ W,Below w.heap.size w W->OkT t->Calls Tryz.prog 37 #[.agg (tA t gp gc kp kc cp cc fp fc bp bc)] W λ e w'=>∃ (bb:Nat) (bv:BV) (L:List E),e=.returned (.pointer (some ⟨bb,0,none⟩))/\W.heap.size<=bb/\BdAt w' bb bv t L (pcsT t L) (belT t L)/\LOk t.ground L/\Below W.heap.size W w'/\BvOwn w' W.heap.size bv (.slice gp t.ground.length gc) (.slice kp t.kinds.length kc) (.slice cp t.counts.length cc) (.slice fp t.fixed.length fc) (.slice bp t.below.length bc) (pcsT t L)):=yK
  λ W h ho=>eu ho W _ _ _ _ _ (hg.below h) (hk.below h) (hc.below h) hcf (hf.below h) (hb.below h)
 have G9:Hid (∀ W,Below w.heap.size w W->HasQ W (.slice gp t.ground.length gc) t.ground/\HasQQ W (.slice kp t.kinds.length kc) t.kinds/\RI.Has W (.slice cp t.counts.length cc) t.counts/\RL.Has W (.slice fp t.fixed.length fc) t.fixed/\RE.Has W (.slice bp t.below.length bc) t.below):=yK
  λ W h=>⟨hg.below h,hk.below h,hc.below h,hf.below h,hb.below h⟩
 have Q2:=yK htb;clear htb hg hk hc hf hb hcf;generalize P7:qb7 t n w=Po;have D4:=yK P7;clear P7;go_enter func32,ntmps32;go_wp2_with fail;have hT:=yd w (.cells (tA t gp gc kp kc cp cc fp fc bp bc) 34);have hB:Below w.heap.size w (w.alloc (.cells (tA t gp gc kp kc cp cc fp fc bp bc) 34)):=(yf _ w).alloc (ye _) _;revert hT hB;generalize w.alloc (.cells (tA t gp gc kp kc cp cc fp fc bp bc) 34)=w1;intro hT hB;have HB:=yK hB;clear hB;have O3:=(ya.1 hT).1;refine(E4.o w1 HB.o).mono ?_;rintro e w2 ⟨C6,rfl,h0,Z,D3⟩;have R4:=(D3.block _ O3).trans hT;have E3:=yK (HB.o.tm D3);clear D3 HB O3;have A:∀ j,w2.cell? ⟨w.heap.size,j,none⟩=(#[.slice gp t.ground.length gc,.slice kp t.kinds.length kc,.slice cp t.counts.length cc,.slice fp t.fixed.length fc,.slice bp t.below.length bc]:Array Value)[j]?:=λ j=>by simp only[World.cell?,R4];simp
 have c0:=A 0;have c1:=A 1;have c2:=A 2;have c3:=A 3;have c4:=A 4;simp at c0 c1 c2 c3 c4;clear A hT E4 R4;rcases Z with rfl|rfl
 case inr =>
  have HN:Hid (¬ OkT t):=yK λ h=>kV (h0.2 h) (by decide);clear J1 h0 c0 c1 c2 c3 c4;go_wp2_with fail;rw[<- D4.o];exact⟨_,[],2,rfl,E3.o,.inl ⟨rfl,.inl ⟨HN.o,rfl⟩⟩⟩
 case inl =>
  have A2:Hid (OkT t):=yK (h0.1 rfl);have HL:=yK (J1.o w2 E3.o A2.o);clear J1 h0;by_cases hn:1<=n/\n<=5
  case neg =>
   have HW:Hid (∀ W,Calls Tryz.prog 43 #[.int .i64 n,.int .i64 1,.int .i64 5] W λ e w'=>e=.returned (.bool false)/\W=w'):=yK λ W=>by
    refine(zF n 1 5 W).mono ?_;rintro e w' ⟨rfl,rfl⟩;exact⟨qL (yv hn),rfl⟩
   have V6:=yK hn;clear HL c0 c1 c2 c3 c4 hn;go_wp2_with fail;refine(HW.o w2).mono ?_;rintro e w3 ⟨rfl,rfl⟩;clear HW;go_wp2_with fail
   skip
   rw[<- D4.o];exact⟨_,[],3,rfl,E3.o,.inl ⟨rfl,.inr ⟨A2.o,V6.o,rfl⟩⟩⟩
  obtain⟨m,rfl⟩:∃ m:Nat,n=(m:Int):=⟨n.toNat,by omega⟩;have HN:Hid (1<=m/\m<=5):=yK (by omega);have HW:Hid (∀ W,Calls Tryz.prog 43 #[.int .i64 (m:Int),.int .i64 1,.int .i64 5] W λ e w'=>e=.returned (.bool true)/\W=w'):=yK λ W=>by
   refine(zF m 1 5 W).mono ?_;rintro e w' ⟨rfl,rfl⟩;exact⟨qL (yw hn),rfl⟩
  clear hn;go_wp2_with fail;refine(HW.o w2).mono ?_;rintro e w3 ⟨rfl,rfl⟩;clear HW;go_wp2_with fail;refine HL.o.mono ?_;rintro e w3 ⟨bb,bv,L,rfl,F6,G4,G6,O0,Q3⟩;have M3:=yK (E3.o.tm O0);have N9:Hid (w.heap.size<=bb/\bb<w3.heap.size):=yK ⟨yJ E3.o.size F6,(ya.1 G4.blk).1⟩;have C3:=yK G6;have N0:Hid (∀ q∈t.ground,inQ q):=yK λ q hq=>(qj A2.o.ground).1.1 q hq;have E1:Hid (∀ P:E->Bool,okW (wordsE P L)):=yK λ P=>zX _ _;have S5:=yK (λ P R=>Au N0.o C3.o (aA A2.o C3.o).l192 P R);have N6:=yK G4;have A8:=yK Q3;have W1:=E1.o (λ e=>decide (e∈t.below));obtain⟨⟨b0,b1,b2⟩,L3⟩:∃ b,wordsE (λ e=>decide (e∈t.below)) L=b:=⟨_,rfl⟩;have T1:=yK L3;have B4:=G4.blk;rw[show belT t L=(b0,b1,b2)from L3]at B4;have e8:w3.cell? ⟨bb,8,none⟩=some (.int .u64 b0):=by simp only[World.cell?,B4];rfl
  have e9:w3.cell? ⟨bb,9,none⟩=some (.int .u64 b1):=by simp only[World.cell?,B4];rfl
  have V8:w3.cell? ⟨bb,10,none⟩=some (.int .u64 b2):=by simp only[World.cell?,B4];rfl
  clear O0 F6 G4 G6 Q3 L3 B4 W1 HL c0 c1 c2 c3 c4;go_upto_region 8 with fail;clear e8 e9 V8;have D:Below w3.heap.size w3 (w3.alloc (.cells #[.int .u64 b0,.int .u64 b1,.int .u64 b2] 105)):=(yf _ w3).alloc (ye _) _;have N5:=yd w3 (.cells #[.int .u64 b0,.int .u64 b1,.int .u64 b2] 105);have G5:=yK (M3.o.tm D);have A5:=yK (N6.o.keep D);have D0:Hid (BvOwn (w3.alloc (.cells #[.int .u64 b0,.int .u64 b1,.int .u64 b2] 105)) w2.heap.size bv (.slice gp t.ground.length gc) (.slice kp t.kinds.length kc) (.slice cp t.counts.length cc) (.slice fp t.fixed.length fc) (.slice bp t.below.length bc) (pcsT t L)) :=
   yK ⟨A8.o.g,A8.o.k,A8.o.c,A8.o.f,A8.o.b,A8.o.qm,A8.o.em,A8.o.pp.below D⟩
  have F8:=yK N5;have I5:Hid (w3.heap.size<(w3.alloc (.cells #[.int .u64 b0,.int .u64 b1,.int .u64 b2] 105)).heap.size):=yK (by rw[yp];exact kD _);clear N6 A8 D N5;revert G5 A5 D0 F8 I5;change _->_->_->_->_->Code.wp _ _ _ _ (w3.alloc (.cells #[.int .u64 b0,.int .u64 b1,.int .u64 b2] 105));generalize w3.alloc (.cells #[.int .u64 b0,.int .u64 b1,.int .u64 b2] 105)=w4;intro G5 A5 D0 F8 I5;have M8:=yK (ot (L:=L) C3.o.nodup (λ e he=>by
   obtain⟨q,hq,h⟩:=(C3.o.mem e).1 he;exact an (N0.o q hq) e h) (aA A2.o C3.o).l192 [] (λ e he=>by cases he) (YB _) (.slice none 0 0) w4 bb bv.g bv.k bv.c bv.f bv.b bv.qm bv.em bv.pv (belT t L) (2 ^ t.ground.length-1) A5.o.blk A5.o.edge (.inl ⟨rfl,rfl⟩) (λ h=>kV rfl h))
  go_wp2_with fail;refine M8.o.mono ?_;rintro e w5 ⟨⟨v,rfl⟩,H7,D1⟩;have J8:=yK (iK G5.o N9.o.1 G5.o.size D1);obtain⟨x1,x2,x3,x4,x5⟩:=G9.o w5 J8.o;have H5:=yK (A5.o.free D0.o D1 H7 x1 x2 x3 x4 x5);have M2:Hid (w5.heap[w3.heap.size]?=some (.cells #[.int .u64 b0,.int .u64 b1,.int .u64 b2] 105 (0,0))):=yK ((D1.block _ I5.o (by have:=N9.o.2;omega)).trans F8.o);have E6:=yK (xT A2.o);have F7:Hid (LOk (withB t []).ground L):=yK C3.o;have G1:=yK (dX E6.o (aA E6.o F7.o) w5 bb bv H5.o (Q2.o.below J8.o) λ W' hb' _=>cR (aA E6.o F7.o) W' bb bv hb');have I8:=yK (ci (withB t []));have M0:Hid (∀ T∈(tilingsT (withB t [])).1,T.length<=64):=yK λ T hT=>fH (aA E6.o F7.o) hT λ s hs=>dZ hs;have B9:Hid (layersT t m=if (tilingsT (withB t [])).2.2≠0 then([],(tilingsT (withB t [])).2.2)else if 1000<(tilingsT (withB t [])).1.length then([],8)else
   match planT t.ground (tilingsT (withB t [])).1 m (λ e=>decide (e∈t.below))with
   | none=>([],7)
   | some x=>(x.map λ T=>T.map (·.ld),0)):=yK rfl
  clear M8 D1 H7 x1 x2 x3 x4 x5 A5 D0 F8 H5 E6 F7 G9 Q2;revert G1 I8 M0 B9;generalize tilingsT (withB t [])=R;obtain⟨Ts,nn,C6⟩:=R;simp only;intro G1 I8 M0 B9;go_wp2_with fail;refine G1.o.mono ?_;rintro e w6 ⟨v6,rfl,I4,L5⟩;have R8:Hid (TsAt w6 t.ground L w5.heap.size v6 Ts):=yK I4;have G2:=yK (J8.o.tm L5);have J5:=yK ((L5.block _ (ya.1 M2.o).1).trans M2.o);obtain⟨vp,vc,rfl⟩:=I4.slice;clear I4 L5 G1 M2;by_cases hcode:C6=0
  case neg =>
   have hd:((C6:Int) != 0)=true:=(by simpa using hcode);have C4:Hid (layersT t m=([],C6)):=yK (by rw[B9.o,Yz hcode]);clear B9 hcode;go_wp2_with fail
   skip
   rw[<- D4.o];exact iY A2.o HN.o.1 HN.o.2 G2.o C4.o
  subst hcode;by_cases hmany:1000<Ts.length
  case pos =>
   have hd:decide ((1000:Int)<(Ts.length:Int))=true:=yw (by omega);have C4:Hid (layersT t m=([],8)):=yK (by rw[B9.o,Yy (by decide),Yz hmany]);clear B9 hmany;go_wp2_with fail
   skip
   rw[<- D4.o];exact iY A2.o HN.o.1 HN.o.2 G2.o C4.o
  have hd:decide ((1000:Int)<(Ts.length:Int))=false:=yv (by omega);have F1:Hid (Ts.length<=1000):=yK (by omega);have C4:Hid (layersT t m=match planT t.ground Ts m (λ e=>decide (e∈t.below))with
   | none=>([],7)
   | some x=>(x.map λ T=>T.map (·.ld),0)):=yK (by rw[B9.o,Yy (by decide),Yy hmany])
  have W2:=wz HN.o.1 HN.o.2;clear B9 hmany I8;go_wp2_with fail;have C0:=yd w6 (.cells (Array.replicate m (.slice none 0 0)) 88);have D:Below w6.heap.size w6 (w6.alloc (.cells (Array.replicate m (.slice none 0 0)) 88)):=(yf _ w6).alloc (ye _) _;obtain⟨F0,E8⟩:=OwnLs.nils (T:=88) RB C0 (ye _) (by have:=HN.o.2;simp only[maxLen];omega);have A6:=yK (YP D (YP F0 E8));have H2:Hid (∃ Ss:List HS,Ss.length=Ts.length/\∀ W,(∀ k,k<w6.heap.size->k≠w3.heap.size->W.heap[k]?=w6.heap[k]?)->RS.Has W (.slice vp Ts.length vc) Ss/\∀ (i:Nat) (S:HS) (T:List Pc),Ss[i]?=some S->Ts[i]?=some T->StT t.ground L T S/\RP.Has W S.laid (T.map (hpT t.ground L))):=yK (by
   obtain⟨Ss,F,Z,h3⟩:=R8.o;have mv:∀ {T:TypeId} {n m:Nat} {u:Value} {xs:List Value} {W:World},T≠105->(∀ k,k<w6.heap.size->k≠w3.heap.size->W.heap[k]?=w6.heap[k]?)->w6.ownsRow w5.heap.size T n u m xs->W.ownsRow w5.heap.size T n u m xs:=λ hT h ho=>zk ho λ k hk=>by
    obtain⟨_,A3,X6,M1⟩:=qg ho hk;refine h k A3 λ e=>?_;rw[e,J5.o]at M1;simp only[yo,Yg]at M1;exact hT M1.2.1.symm
   exact⟨Ss,Z,λ W h=>⟨REnc.Own.has (mv (by decide) h F),λ i S T hS hT=>⟨(h3 i S T hS hT).1,REnc.Own.has (mv (by decide) h (h3 i S T hS hT).2)⟩⟩⟩)
  clear C0 D F0 E8 W2 hd R8;revert A6;change _->Code.wp _ _ _ _ (w6.alloc (.cells (Array.replicate m (.slice none 0 0)) 88));generalize w6.alloc (.cells (Array.replicate m (.slice none 0 0)) 88)=w7;intro A6;obtain⟨Ss,N1,S3⟩:=H2.o;have M5:=yK N1;have D8:=yK S3;clear N1 S3 H2;obtain⟨V,J3⟩:∃ V,w6.heap.size=V:=⟨_,rfl⟩;have C2:=yK J3;rw[J3]at A6 D8 ⊢;clear J3;go_wp2_with fail;go_loopw [58] (λ z wr=>∃ (d:Nat) (vs:List Value),d<=m/\z=.int .i64 d/\Hid (Below V w6 wr/\OwnLs RB 88 wr V (.slice (some ⟨V,0,none⟩) m m) vs (canP t.ground Ts m d 0)/\FarVs vs)) (λ z _=>m-(intOf z).toNat)
  case atStart=>exact⟨0,_,YB _,rfl,yK ⟨A6.o.1,by rw[Cz];exact A6.o.2.1,A6.o.2.2⟩⟩
  clear A6;obtain⟨d,vs,X4,rfl,J⟩:=hrel;by_cases hlt:d<m
  case pos =>
   go_wp2_with fail;go_loopw [63] (λ z wr=>∃ (k:Nat) (us:List Value),k<=Ts.length/\z=.int .i64 k/\Hid (Below V w6 wr/\OwnLs RB 88 wr V (.slice (some ⟨V,0,none⟩) m m) us (canP t.ground Ts m d k)/\FarVs us)) (λ z _=>Ts.length-(intOf z).toNat)
   case atStart=>exact⟨0,_,YB _,rfl,J⟩
   clear J;obtain⟨k,us,hk,rfl,J⟩:=hrel;by_cases A3:k<Ts.length
   case pos =>
    obtain⟨T,hT⟩:∃ T,Ts[k]?=some T:=⟨_,yb A3⟩;obtain⟨S,hS⟩:∃ S,Ss[k]?=some S:=⟨_,yb (by rw[M5.o];exact A3)⟩;obtain⟨A9,B5⟩:=D8.o wr λ b hb _=>J.o.1.block b hb;obtain⟨xa,rfl,O⟩:=A9.at_ (by rintro e;rw[e]at hS;simp at hS);have F5:(Instr.loadAt 108 (.pointer (some (xa.add (k*16))))).run Tryz.prog wr=.ok (.agg (hsVals S).toArray) wr:=zl (P:=Tryz.prog) (R:=RS) underlying108 rfl sizeS O hS;have E7:(Tryz.prog.info? 108).map (·.size)=some (hsVals S).toArray.size:=sizeS;have B7:(hsVals S).toArray.all (·.oneCell')=true:=(by simp[hsVals,Value.oneCell']);have E2:Hid (S.joint=wordsE (jointT T) L):=yK (B5 k S T hS hT).1.joint;have D2:=yK hT;have S6:Hid (V<=wr.heap.size):=yK (by rw[<- C2.o];exact J.o.1.size);clear hT hS A9 B5 O;go_upto_region 22 with(first
     | (refine qo rfl 108 _ rfl rfl F5 ?_)
     | (refine wpList_store_row rfl 108 _ _ rfl wr.heap.size rfl 108 _ (hsVals S).toArray rfl (yd wr _) E7 rfl B7 ?_;rw[World.setRow_alloc_new]))
    simp only[Act.put];have A7:=yd wr (.cells (hsVals S).toArray 108);have D:Below wr.heap.size wr (wr.alloc (.cells (hsVals S).toArray 108)):=(yf _ wr).alloc (ye _) _;have A0:=yK (YP (J.o.1.trans (D.mono S6.o)) (YP (J.o.2.1.below D) J.o.2.2));clear F5 D E7 B7 J S6;revert A7 A0;change _->_->Code.wp _ _ _ _ (wr.alloc (.cells (hsVals S).toArray 108));generalize wr.alloc (.cells (hsVals S).toArray 108)=w8;generalize wr.heap.size=sb;intro A7 A0;have L9:((d:Int)==0)=okP t.ground Ts d k 0:=by
     rw[uw];by_cases h:d=0
     ·subst h;rfl
     rw[yv h];simpa using h
    have N7:=yK A7;clear A7;go_wp2_with fail;clear L9;go_loopw [17,18] (λ u z wr=>∃ j:Nat,j<=Ts.length/\z=.int .i64 j/\u=.bool (okP t.ground Ts d k j)/\Hid (Below w8.heap.size w8 wr)) (λ _ z _=>Ts.length-(intOf z).toNat)
    case atStart=>exact⟨0,YB _,rfl,rfl,yK (yf _ _)⟩
    obtain⟨j,C,rfl,rfl,HW⟩:=hrel;obtain⟨ok,M7⟩:∃ ok,okP t.ground Ts d k j=ok:=⟨_,rfl⟩;have C9:=yK M7;rw[M7];clear M7;go_upto_region 24 with fail;go_cut [76]from 69 to 76 (λ u wx=>∃ r:Bool,u=.bool r/\Hid (r=true↔(j<Ts.length/\ok=false))/\wx=wr)
    case first =>
     by_cases hlt2:j<Ts.length
     ·have hd:decide ((j:Int)<(Ts.length:Int))=true:=yw (by omega);have J4:=yK hlt2;clear hlt2
      cases ok with
      | false =>
       go_wp2_with fail
       go_meet
       case rel=>exact⟨true,rfl,yK ⟨λ _=>⟨J4.o,by trivial⟩,λ _=>rfl⟩,rfl⟩
      | true =>
       go_wp2_with fail
       go_meet
       case rel=>exact⟨false,rfl,yK ⟨λ h=>(by cases h),λ h=>(by cases h.2)⟩,rfl⟩
     have hd:decide ((j:Int)<(Ts.length:Int))=false:=yv (by omega);have J4:=yK hlt2;clear hlt2;go_wp2_with fail
     go_meet
     case rel=>exact⟨false,rfl,yK ⟨λ h=>(by cases h),λ h=>kV h.1 J4.o⟩,rfl⟩
    obtain⟨r,rfl,HX,rfl⟩:=hcut
    cases r with
    | true =>
     obtain⟨L2,rfl⟩:=HX.o.1 rfl;obtain⟨d',Q6⟩:∃ d',d=d'+1:=by
      cases d with
      | zero=>have:=C9.o;simp[okP]at this
      | succ d'=>exact⟨d',rfl⟩
     have H0:wrap64 ((d:Int)-1)=(d':Int):=(by have:=HN.o.2;unfold wrap64;omega);have HD:=yK Q6;clear Q6;obtain⟨u,hu,A,D9,A1⟩:=(A0.o.2.1.below HW.o).get (nu (g:=t.ground) (Ts:=Ts) (n:=m) (d:=d) (k:=k) (i:=d') (by have:=HD.o;omega) (by have:=HD.o;omega));obtain⟨cj,M6⟩:∃ cj,(canRow t.ground Ts d')[j]?=some cj:=⟨_,yb (by rw[cX];exact L2)⟩;obtain⟨gu,cu,rfl,C7⟩:=oA A1 M6;rw[cX]at A;obtain⟨Tj,L8⟩:∃ Tj,Ts[j]?=some Tj:=⟨_,yb L2⟩;obtain⟨Sj,F2⟩:∃ Sj,Ss[j]?=some Sj:=⟨_,yb (by rw[M5.o];exact L2)⟩;obtain⟨sp,sn,sc,I6,X5,⟨s0,s1,s2⟩,J2⟩:=S;have G0:=(HW.o.block _ (ya.1 N7.o).1).trans N7.o;have T0:Below V w6 wc:=A0.o.1.trans (HW.o.mono (by have:=A0.o.1.size;rw[C2.o]at this;exact this));obtain⟨A9,B5⟩:=D8.o wc λ b hb _=>T0.block b hb;obtain⟨V4,L4,O⟩:=A9.at_ (by rintro e;rw[e]at F2;simp at F2)
     cases L4
     have d1:∀ d:SubW wc,d.1.cell? ⟨V,d',none⟩=some (.slice (some ⟨gu,0,none⟩) Ts.length cu):=λ d=>zL d.2 A;have d2:∀ d:SubW wc,d.1.cell? ⟨gu,j,none⟩=some (.bool cj):=λ d=>zL d.2 C7;have ld:∀ d:SubW wc,(Instr.loadAt 108 (.pointer (some (xa.add (j*16))))).run Tryz.prog d.1=.ok (.agg (hsVals Sj).toArray) d.1:=λ d=>zl (P:=Tryz.prog) (R:=RS) underlying108 rfl sizeS (O.below d.2) F2;have d5:∀ d:SubW wc,d.1.cell? ⟨sb,5,none⟩=some (.int .u64 s0):=λ d=>by simp[World.cell?,d.block G0,hsVals]
     have d6:∀ d:SubW wc,d.1.cell? ⟨sb,6,none⟩=some (.int .u64 s1):=λ d=>by simp[World.cell?,d.block G0,hsVals]
     have d7:∀ d:SubW wc,d.1.cell? ⟨sb,7,none⟩=some (.int .u64 s2):=λ d=>by simp[World.cell?,d.block G0,hsVals]
     have L7:Sj.joint=wordsE (jointT Tj) L:=(B5 j Sj Tj F2 L8).1.joint;have H9:(s0,s1,s2)=wordsE (jointT T) L:=E2.o;obtain⟨ov,C1⟩:∃ ov,ovP t.ground (jointT Tj) (jointT T)=ov:=⟨_,rfl⟩;have B3:Hid (∀ d:SubW wc,Calls Tryz.prog 74 #[.agg (hsVals Sj).toArray,.agg #[.int .u64 s0,.int .u64 s1,.int .u64 s2]] d.1 λ e w'=>e=.returned (.bool ov)/\∃ d':SubW wc,w'=d'.1):=yK λ d=>by
      have F:=pU Sj (s0,s1,s2) (by rw[L7];exact E1.o _) (by rw[H9];exact E1.o _) d.1;refine Calls.mono (show Calls Tryz.prog 74 _ _ _ from F) ?_;rintro e w' ⟨rfl,hb⟩;refine⟨?_,⟨w',d.2.tm hb⟩,rfl⟩;have:decide (andW Sj.joint (s0,s1,s2)=(0,0,0))=ov:=by
       rw[L7,H9,<- C1,YL,yS];exact S5.o _ _
      rw[this]
     have D7:Hid (okP t.ground Ts d k (j+1)=(cj&&ov)):=yK (by
      have F:=tT (g:=t.ground) L8 M6 D2.o;have Z:=C9.o;rw[HD.o]at Z ⊢;rw[F,Z,C1];rfl)
     have D6:(d':Int)<(m:Int):=(by have:=HD.o;omega);have G8:(j:Int)<(Ts.length:Int):=(by omega);clear hu A D9 A1 M6 C7 L8 F2 G0 T0 A9 B5 O L7 H9 C1;go_upto_region 26 with fail
     cases cj with
     | false =>
      refine zg 18 (by kernel_rfl) (by kernel_rfl) ?_;simp only[yh,yj,yi,yl]
      repeat(go_big_quiet_step (exact B3.o _))
      refine wpQuiet_nil ?_;intro dq;have G:=yK (HW.o.tm dq.2);clear d1 d2 ld d5 d6 d7 B3;revert G;generalize dq.1=w9;intro G;clear H0 D6 G8;have J6:Ts.length<=1000:=F1.o;go_wp2_with fail
      go_roundw
      case rel=>exact⟨j+1,by omega,by go_num,by rw[D7.o];rfl,G⟩
      case measure=>simp only[intOf];omega
     | true =>
      refine zg 18 (by kernel_rfl) (by kernel_rfl) ?_;simp only[yh,yj,yi,yl]
      repeat(go_big_quiet_step (exact B3.o _))
      go_big_quiet_want;refine vL 108 _ rfl rfl (by rintro w ⟨d,rfl⟩;exact ld d) ?_;simp only[Act.put,yr,yF,yE];go_big_quiet_on
      repeat(go_big_quiet_step (exact B3.o _))
      refine wpQuiet_nil ?_;intro dq;have G:=yK (HW.o.tm dq.2);clear d1 d2 ld d5 d6 d7 B3;revert G;generalize dq.1=w9;intro G;clear H0 D6 G8;have J6:Ts.length<=1000:=F1.o;go_wp2_with fail
      go_roundw
      case rel=>exact⟨j+1,by omega,by go_num,by rw[D7.o,kU],G⟩
      case measure=>simp only[intOf];omega
    | false =>
     have R1:Hid ((canRow t.ground Ts d)[k]?=some ok):=yK (by
      have F:=tM (g:=t.ground) (Ts:=Ts) (d:=d) (k:=k) (j:=j) A3 (by
       rw[C9.o]
       cases ok with
       | true=>exact .inl rfl
       | false =>
        refine .inr ?_;have Z:¬ j<Ts.length:=λ h=>by
         have:=HX.o.2 ⟨h,rfl⟩;cases this
        omega)
      rw[C9.o]at F;exact F)
     have T3:=yK (wL (n:=m) R1.o);have I1:=yK (A0.o.2.1.below HW.o);obtain⟨u,hu,A,D9,A1⟩:=I1.o.get (lL (g:=t.ground) (Ts:=Ts) (n:=m) (d:=d) (k:=k) hlt);have P4:=yK (lL (g:=t.ground) (Ts:=Ts) (n:=m) (d:=d) (k:=k) hlt);obtain⟨ls,I2⟩:∃ ls,(canRow t.ground Ts d).take k=ls:=⟨_,rfl⟩;have N4:ls.length=k:=(by rw[<- I2,Ye,cX];omega);rw[I2]at A1 T3 P4;obtain⟨up,uc,rfl⟩:=zf A1;have V3:=yK hu;have E0:=yK A1;have C3:=yK N4;have L0:Hid (V<=wc.heap.size):=yK (by have F:=A0.o.1.size;have Z:=HW.o.size;rw[C2.o]at F;omega);have X9:=F1.o;obtain⟨iB,V2,T7,V9,W4⟩:=info_parts infoBool;have X2:Hid (ls.length+1<=maxLen):=yK (by simp only[maxLen];omega);have T8:Hid ((ls.length+1)*1<=140737488355328):=yK (by omega);have V0:=yK (zD (cs:=[.bool ok]) (yd wc (.cells #[.bool ok] 4)));clear hu I2 N4 A1;have D6:(d:Int)<(m:Int):=(by omega);go_upto_region 27 with fail;go_upto_region 28 with(first
      | (at_builtin;refine wpList_append_own_at (P:=Tryz.prog) _ rfl _ _ 88 rfl V 4 iB _ 1 1 underlying88 V2 T7 V9 W4 rfl (by decide) (.slice up ls.length uc) ls.length (RB.cells ls) rfl (qf E0.o ((yf _ wc).alloc (ye _) _)) ⟨wc.heap.size,0,none⟩ 1 1 [.bool ok] rfl rfl V0.o (by simp[Value.oneCell']) X2.o T8.o (by rw[yp];have:=L0.o;omega) ?_;intro v' w9 hown' hgrow _ O;obtain⟨p',U,rfl⟩:=zf hown';obtain⟨T5,X0⟩:=(I1.o.below ((yf _ wc).alloc (ye _) _)).outer_kept (i:=d) (by decide) (qf E0.o ((yf _ wc).alloc (ye _) _)) hgrow (zL ((yf _ wc).alloc (ye _) _) A)))
     have B6:=(I1.o.below ((yf _ wc).alloc (ye _) (.cells #[.bool ok] 4))).grow (by decide) A0.o.2.2 V3.o P4.o hgrow (RB.own_snoc hown') O;have O8:Below V w6 (w9.setCell ⟨V,d,none⟩ (.slice p' (ls.length+1) U)):=(((A0.o.1.trans (HW.o.mono (by have F:=A0.o.1.size;rw[C2.o]at F;exact F))).alloc (by have F:=L0.o;exact F) (.cells #[.bool ok] 4)).grown hgrow (by rw[yp];have:=L0.o;omega) λ b e=>(qg E0.o e).1).trans (cV (W:=w9) (B:=V) (a:=⟨V,d,none⟩) (ye _) _);have E5:=yK (YP O8 (YP B6.1 B6.2));clear O8 B6 hgrow hown' O T5 X0 A D9 D6;revert E5;generalize w9.setCell ⟨V,d,none⟩ (.slice p' (ls.length+1) U)=w10;intro E5;go_wp2_with fail
     go_roundw
     case rel=>exact⟨k+1,_,by omega,by go_num,yK ⟨E5.o.1,by rw[<- T3.o];exact E5.o.2.1,E5.o.2.2⟩⟩
     case measure=>simp only[intOf];omega
   obtain rfl:k=Ts.length:=(by omega);have X8:m<=5:=HN.o.2;go_wp2_with fail
   go_roundw
   case rel=>exact⟨d+1,us,by omega,by go_num,yK (by rw[<- Ac];exact J.o)⟩
   case measure=>simp only[intOf];omega
  obtain rfl:m=d:=by omega
  have R6:wrap64 ((m:Int)-1)=(m:Int)-1:=by have:=HN.o.2;unfold wrap64;omega
  have HC:=yK J.o.2.1;have J7:Hid (∀ k,k<V->k≠w3.heap.size->wr.heap[k]?=w6.heap[k]?):=yK λ k hk _=>J.o.1.block k hk;have F9:Hid (w3.heap.size<V/\wr.heap[w3.heap.size]?=some (.cells #[.int .u64 b0,.int .u64 b1,.int .u64 b2] 105 (0,0))):=yK (by
   have F:=(ya.1 J5.o).1;rw[C2.o]at F;exact⟨F,(J.o.1.block _ F).trans J5.o⟩)
  have G:Hid (Below w.heap.size w wr/\V<=wr.heap.size):=yK ⟨G2.o.trans (J.o.1.mono (by rw[<- C2.o];exact G2.o.size)),by rw[<- C2.o];exact J.o.1.size⟩;clear J hlt;go_wp2_with fail;clear R6;obtain⟨w9,R9⟩:∃ w9,w9=wr:=⟨_,rfl⟩;rw[<- R9]at HC J7 F9 G ⊢;clear R9;obtain⟨B2,D3⟩:∃ B2,w9.heap.size=B2:=⟨_,rfl⟩;have N:=yK D3;clear D3;obtain⟨P0,Q0⟩:∃ P:E->Bool,(λ e=>decide (e∈t.below))=P:=⟨_,rfl⟩;rw[Q0]at C4 T1;clear Q0;go_loopw [19,20] (λ u z wr=>∃ (c:Nat) (z0:Int) (us:List Value) (pl:List (List Pc)) (P:E->Bool),c<=m/\z=.int .i64 z0/\z0+1=(c:Int)/\Hid (BelowBut B2 w3.heap.size w9 wr/\wr.heap[w3.heap.size]?=some (.cells (zad (wordsE P L)).toArray 105 (0,0))/\OwnLs RL 31 wr B2 u us (pl.map λ T=>T.map (·.ld))/\planT t.ground Ts m P0=(planT t.ground Ts c P).map (pl++·)/\pl.length+c=m)) (λ _ z _=>(intOf z+1).toNat)
  case atStart=>exact⟨m,_,[],[],P0,ye _,rfl,by have:=HN.o;unfold wrap64;omega,yK ⟨BelowBut.refl _ _ _,by rw[T1.o];exact F9.o.2,OwnLs.nil _ _ _ _,by simp,by simp⟩⟩
  obtain⟨c,z0,ps,pl,P,X7,rfl,P6,J⟩:=hrel;by_cases hc0:c=0
  case pos =>
   have hd:decide ((0:Int)<=z0)=false:=yv (by omega);have A6:=yK hc0;clear hc0 P6;have P2:Hid (layersT t m=(pl.map λ T=>T.map (·.ld),0)):=yK (by
    have F:=J.o.2.2.2.1;rw[A6.o]at F;rw[C4.o,F];simp[planT])
   go_wp2_with fail;rw[<- D4.o];refine⟨_,ps,0,rfl,iK G.o.1 M3.o.size G.o.1.size (by rw[N.o];exact J.o.1),.inr ⟨A2.o,by have:=HN.o.1;omega,by have:=HN.o.2;omega,?_,?_⟩⟩
   ·rw[YI,P2.o];exact J.o.2.2.1.wider (by rw[<- N.o];exact G.o.1.size)
   rw[YI,P2.o]
  obtain⟨U,rfl⟩:∃ U,c=U+1:=⟨c-1,by omega⟩;obtain rfl:z0=(U:Int):=by omega
  have hd:decide ((0:Int)<=(U:Int))=true:=yw (by omega);have H1:U<m:=by omega
  clear hc0 P6;obtain⟨wl,W9⟩:∃ z,z=wr:=⟨_,rfl⟩;subst W9;have G7:(canP t.ground Ts m m 0)[U]?=some (canRow t.ground Ts U):=nu H1 H1;have P3:=J.o.1.size;rw[N.o]at P3;have C0:OwnLs RB 88 wl V (.slice (some ⟨V,0,none⟩) m m) vs (canP t.ground Ts m m 0):=HC.o.move λ k F Z=>J.o.1.block k (by rw[<- N.o];exact Z) (by have:=F9.o.1;omega);obtain⟨u,hu,A,D9,A1⟩:=C0.get G7;have I7:Hid (∀ W,Below wl.heap.size wl W->W.cell? ⟨V,U,none⟩=some u):=yK λ W h=>zL h A;have E0:Hid (∀ W,Below wl.heap.size wl W->RB.Own W V u (canRow t.ground Ts U)):=yK λ W h=>qf A1 h;have T6:Hid (∀ W,Below wl.heap.size wl W->∀ k,k<V->k≠w3.heap.size->W.heap[k]?=w6.heap[k]?):=yK λ W h k F Z=>by
   have h3:=G.o.2;rw[N.o]at h3;rw[h.block k (by omega),J.o.1.block k (by omega) Z];exact J7.o k F Z
  have O6:Hid (∀ W,Below wl.heap.size wl W->W.heap[w3.heap.size]?=some (.cells (zad (wordsE P L)).toArray 105 (0,0))):=yK λ W h=>(h.block _ (ya.1 J.o.2.1).1).trans J.o.2.1;clear G7 C0 hu A D9 A1 P3;go_wp2_with fail;go_loopw [21,117] (λ x z wr=>∃ k:Nat,k<=Ts.length/\z=.int .i64 k/\x=.int .i64 (-1)/\Hid (Below wl.heap.size wl wr/\∀ (j:Nat) (y:List Pc) (b:Bool),j<k->Ts[j]?=some y->(canRow t.ground Ts U)[j]?=some b->(b&&ovP t.ground (jointT y) P)=false)) (λ _ z _=>Ts.length-(intOf z).toNat)
  case atStart=>exact⟨0,YB _,rfl,rfl,yK ⟨yf _ _,λ j y b C=>kV C (Nat.not_lt_zero _)⟩⟩
  obtain⟨k,hk,rfl,rfl,A4⟩:=hrel;have X1:Hid (Below w.heap.size w wr):=yK ((iK G.o.1 M3.o.size G.o.1.size (by rw[N.o];exact J.o.1)).trans (A4.o.1.mono (by have F:=G.o.1.size;have Z:=J.o.1.size;omega)));by_cases A3:k<Ts.length
  case neg =>
   obtain rfl:k=Ts.length:=(by omega);have J9:Hid (layersT t m=([],7)):=yK (by
    have F:=J.o.2.2.2.1;have Z:=Aw (g:=t.ground) (Ts:=Ts) (d:=U) (P:=P) λ j y b hy hb=>A4.o.2 j y b (yc.1 hy).1 hy hb;rw[C4.o,F];unfold planT;rw[Z];rfl)
   go_wp2_with fail;rw[<- D4.o];exact iY A2.o HN.o.1 HN.o.2 X1.o J9.o
  obtain⟨T,hT⟩:∃ T,Ts[k]?=some T:=⟨_,yb A3⟩;obtain⟨S,hS⟩:∃ S,Ss[k]?=some S:=⟨_,yb (by rw[M5.o];exact A3)⟩;obtain⟨A9,B5⟩:=D8.o wr (T6.o wr A4.o.1);obtain⟨xa,rfl,O⟩:=A9.at_ (by rintro e;rw[e]at hS;simp at hS);have F5:(Instr.loadAt 108 (.pointer (some (xa.add (k*16))))).run Tryz.prog wr=.ok (.agg (hsVals S).toArray) wr:=zl (P:=Tryz.prog) (R:=RS) underlying108 rfl sizeS O hS;have E7:(Tryz.prog.info? 108).map (·.size)=some (hsVals S).toArray.size:=sizeS;have B7:(hsVals S).toArray.all (·.oneCell')=true:=by simp[hsVals,Value.oneCell']
  obtain⟨ck,H8⟩:∃ ck,(canRow t.ground Ts U)[k]?=some ck:=⟨_,yb (by rw[cX];exact A3)⟩;obtain⟨gu,cu,rfl,C5⟩:=oA (E0.o wr A4.o.1) H8;have A:=I7.o wr A4.o.1;rw[cX]at A;obtain⟨⟨p0,p1,p2⟩,J0⟩:∃ p,wordsE P L=p:=⟨_,rfl⟩;have F4:=O6.o wr A4.o.1;rw[J0]at F4;have M9:=yK J0;have E2:Hid (S.joint=wordsE (jointT T) L):=yK (B5 k S T hS hT).1.joint;have D2:=yK hT;have F3:=yK hS;have E4:=yK H8;have D:Below wr.heap.size wr (wr.alloc (.cells (hsVals S).toArray 108)):=(yf _ wr).alloc (ye _) _;have e0:(wr.alloc (.cells (hsVals S).toArray 108)).cell? ⟨w3.heap.size,0,none⟩=some (.int .u64 p0):=zL D (by simp only[World.cell?,F4];rfl);have e1:(wr.alloc (.cells (hsVals S).toArray 108)).cell? ⟨w3.heap.size,1,none⟩=some (.int .u64 p1):=zL D (by simp only[World.cell?,F4];rfl);have e2:(wr.alloc (.cells (hsVals S).toArray 108)).cell? ⟨w3.heap.size,2,none⟩=some (.int .u64 p2):=zL D (by simp only[World.cell?,F4];rfl);have e3:=zL D A;have e4:=zL D C5;have A7:=yd wr (.cells (hsVals S).toArray 108);have B8:=yK (A4.o.1.tm D);clear hT hS A9 B5 O H8 C5 A J0 F4 D;go_upto_region 38 with(first
   | (refine qo rfl 108 _ rfl rfl F5 ?_)
   | (refine wpList_store_row rfl 108 _ _ rfl wr.heap.size rfl 108 _ (hsVals S).toArray rfl (yd wr _) E7 rfl B7 ?_;rw[World.setRow_alloc_new]))
  try simp only[Act.put]
  clear F5;revert e0 e1 e2 e3 e4 A7 B8;change _->_->_->_->_->_->_->Code.wp _ _ _ _ (wr.alloc (.cells (hsVals S).toArray 108));generalize wr.alloc (.cells (hsVals S).toArray 108)=w11;intro e0 e1 e2 e3 e4 A7 B8;have D6:(U:Int)<(m:Int):=by omega
  have S1:(k:Int)<(Ts.length:Int):=by omega
  cases ck with
  | false =>
   have D7:Hid (∀ (j:Nat) (y:List Pc) (b:Bool),j<k+1->Ts[j]?=some y->(canRow t.ground Ts U)[j]?=some b->(b&&ovP t.ground (jointT y) P)=false):=yK λ j y b C hy hb=>by
    rcases (by omega:j<k\/j=k)with h|rfl
    ·exact A4.o.2 j y b h hy hb
    rw[E4.o]at hb;cases hb;rfl
   have J6:Ts.length<=1000:=F1.o;go_wp2_with fail
   go_roundw
   case rel=>exact⟨k+1,by omega,by go_num,rfl,yK ⟨B8.o,D7.o⟩⟩
   case measure=>simp only[intOf];omega
  | true =>
   obtain⟨ov,C1⟩:∃ ov,ovP t.ground (jointT T) P=ov:=⟨_,rfl⟩;have H4:Hid (Calls Tryz.prog 74 #[.agg (hsVals S).toArray,.agg #[.int .u64 p0,.int .u64 p1,.int .u64 p2]] w11 λ e w'=>e=.returned (.bool ov)/\Below w11.heap.size w11 w'):=yK (by
    have F:=pU S (p0,p1,p2) (by rw[E2.o];exact E1.o _) (by rw[<- M9.o];exact E1.o _) w11;refine Calls.mono (show Calls Tryz.prog 74 _ _ _ from F) ?_;rintro e w' ⟨rfl,hb⟩;refine⟨?_,hb⟩;have:decide (andW S.joint (p0,p1,p2)=(0,0,0))=ov:=by
     rw[E2.o,<- M9.o,<- C1,YL,yS];exact S5.o _ _
    rw[this])
   have H6:=yK C1;clear C1;obtain⟨sp,sn,sc,I6,⟨q0,q1,q2⟩,⟨s0,s1,s2⟩,J2⟩:=S;have H:∀ j,w11.cell? ⟨wr.heap.size,j,none⟩=(hsVals ⟨sp,sn,sc,I6,(q0,q1,q2),(s0,s1,s2),J2⟩)[j]?:=λ j=>by simp only[World.cell?,A7];simp
   have g0:=H 0;have g1:=H 1;have g2:=H 2;have g3:=H 3;have g4:=H 4;have g5:=H 5;have g6:=H 6;have g7:=H 7;have g8:=H 8;have g9:=H 9;have R2:=H 10;have P8:=H 11;have O1:=H 12;have R5:=H 13;have R0:=H 14;have R7:=H 15;simp[hsVals]at g0 g1 g2 g3 g4 g5 g6 g7 g8 g9 R2 P8 O1 R5 R0 R7;clear H A7 E7 B7;go_wp2_with fail;refine Calls.mono (show Calls Tryz.prog 74 #[.agg _,.agg #[.int .u64 p0,.int .u64 p1,.int .u64 p2]] w11 _ from H4.o) ?_;rintro e w12 ⟨rfl,H3⟩;clear g0 g1 g2 g3 g4 g5 g6 g7 g8 g9 R2 P8 O1 R5 R0 R7;have B0:=yK (B8.o.tm H3);clear H3 B8 H4 e0 e1 e2 e3 e4
   cases ov with
   | false =>
    have D7:Hid (∀ (j:Nat) (y:List Pc) (b:Bool),j<k+1->Ts[j]?=some y->(canRow t.ground Ts U)[j]?=some b->(b&&ovP t.ground (jointT y) P)=false):=yK λ j y b C hy hb=>by
     rcases (by omega:j<k\/j=k)with h|rfl
     ·exact A4.o.2 j y b h hy hb
     rw[D2.o]at hy;cases hy;rw[H6.o,Bool.and_false]
    have J6:Ts.length<=1000:=F1.o;go_wp2_with fail
    go_roundw
    case rel=>exact⟨k+1,by omega,by go_num,rfl,yK ⟨B0.o,D7.o⟩⟩
    case measure=>simp only[intOf];omega
   | true =>
    have Q5:Hid (planT t.ground Ts (U+1) P=(planT t.ground Ts U (jointT T)).map (T :: ·)):=yK (CA (DB (g:=t.ground) (Ts:=Ts) (d:=U) (P:=P) D2.o E4.o H6.o A4.o.2));have L9:decide ((k:Int)<0)=false:=yv (by omega);go_upto_region 43 with fail;obtain⟨Sx,I9⟩:∃ Sx:HS,Sx=⟨sp,sn,sc,I6,(q0,q1,q2),(s0,s1,s2),J2⟩:=⟨_,rfl⟩;rw[<- I9]at F3;have Q4:Hid (Sx.joint=wordsE (jointT T) L):=yK (by rw[I9];exact E2.o);clear I9 L9 D6 S1;have Q1:Hid (k<Ts.length):=yK A3;have S9:Hid (w3.heap.size<B2):=yK (by have F:=F9.o.1;have Z:=G.o.2;rw[N.o]at Z;omega);have D5:Hid (B2<=w12.heap.size):=yK (by have F:=J.o.1.size;have Z:=B0.o.size;rw[N.o]at F;omega);have I0:Hid (∀ W,BelowBut B2 w3.heap.size w9 W->RS.At W xa Ss/\RP.Has W Sx.laid (T.map (hpT t.ground L))):=yK λ W h=>by
     obtain⟨F,Z⟩:=D8.o W λ b hb hn=>(h.block b (by have h3:=G.o.2;rw[N.o]at h3;omega) hn).trans (J7.o b hb hn);obtain⟨V4,L4,O⟩:=F.at_ (by rintro e;have:=F3.o;rw[e]at this;simp at this)
     cases L4
     exact⟨O,(Z k Sx T F3.o D2.o).2⟩
    have V1:Hid ((T.map (hpT t.ground L)).map (·.ld)=T.map (·.ld)):=yK (by rw[kl];rfl);obtain⟨Y,C8⟩:∃ Y,(pl.map λ T=>T.map (·.ld))=Y:=⟨_,rfl⟩;have W0:=yK C8;have T2:Hid (OwnLs RL 31 wl B2 u19 ps Y):=yK (by rw[<- C8];exact J.o.2.2.1);have O9:Hid (Y.length<=m):=yK (by have:=J.o.2.2.2.2;rw[<- C8,yB];omega);clear C8;have W7:Hid (Y.length+1<=maxLen):=yK (by have:=O9.o;have:=HN.o.2;simp only[maxLen];omega);have W8:Hid ((Y.length+1)*24<=140737488355328):=yK (by have:=O9.o;have:=HN.o.2;omega);have M:=@Cf u19 Ts.length vc k xa Sx (T.map (·.ld)) ps Y B2 w12.heap.size w3.heap.size;have X:=@mo w9 u19 ps Y (zad (wordsE P L)).toArray B2 w12.heap.size w3.heap.size;refine zO 153 (by kernel_rfl) (by kernel_rfl) rfl (FamJ (lyF u19 Ts.length vc k xa Sx (T.map (·.ld)) ps Y B2 w12.heap.size w3.heap.size) lyD lyR (lyB w9 u19 ps Y (zad (wordsE P L)).toArray B2 w12.heap.size w3.heap.size))
     (FamJ.start ⟨J.o.1.trans (.of_below (B0.o.drew.mono (by have F:=J.o.1.size;rw[N.o]at F;exact F))),ye _,λ _=>T2.o.below B0.o.drew,λ _=>O6.o _ B0.o.drew⟩ _) ?_ ?_
    ·refine⟨?_,?_,?_,?_,?_,?_,?_,?_,?_,?_,?_,?_,?_,?_,?_,trivial⟩
     ·intro L1 b W vals hL hD hC K hJ;have W6:b.eval (.tmp 19)=u19:=(K.was 19 (by kernel_rfl)).trans rfl;refine qE rfl ?_;rw[W6];exact(hJ.still M X hL (by intro j C;simp[lyR]at C) rfl)
     ·intro L1 b W vals hL hD hC K hJ;have e9:b.eval (.tmp 9)=(.slice (some xa) Ts.length vc):=(K.was 9 (by kernel_rfl)).trans rfl;refine qE rfl ?_;rw[e9];exact(hJ.still M X hL (by intro j C;simp[lyR]at C) rfl)
     ·intro L1 b W vals hL hD hC K hJ;have M4:b.eval (.tmp 21)=(.int .i64 k):=(K.was 21 (by kernel_rfl)).trans rfl;refine qE rfl ?_;rw[M4];exact(hJ.still M X hL (by intro j C;simp[lyR]at C) rfl)
     ·intro L1 b W vals hL hD hC K hJ;obtain⟨Q8,_⟩:=K.val 1 140 (by kernel_rfl);obtain⟨S2,_⟩:=K.val 2 141 (by kernel_rfl);have f1:=hJ.get 1 (hD 1 (by kernel_rfl)) (by intro j C;simp[lyD]at C);have f2:=hJ.get 2 (hD 2 (by kernel_rfl)) (by intro j C;simp[lyD]at C);refine lu_v (I:=Instr.indexAt 96 (b.eval (.tmp 140)) (b.eval (.tmp 141))) rfl ?_ (hJ.still M X hL (by intro j C;simp[lyR]at C) rfl);rw[Q8,f1,S2,f2];exact oE W xa Q1.o
     ·intro L1 b W vals hL hD hC K hJ;obtain⟨S8,_⟩:=K.val 3 142 (by kernel_rfl);have f3:=hJ.get 3 (hD 3 (by kernel_rfl)) (by intro j C;simp[lyD]at C);refine lu_v (I:=Instr.loadAt 108 (b.eval (.tmp 142))) rfl ?_ (hJ.still M X hL (by intro j C;simp[lyR]at C) rfl);rw[S8,f3];exact zl (P:=Tryz.prog) (R:=RS) underlying108 rfl sizeS (I0.o W hJ.base.1).1 F3.o
     ·intro L1 b W vals hL hD hC K hJ;obtain⟨P1,_⟩:=K.val 4 143 (by kernel_rfl);have f4:=hJ.get 4 (hD 4 (by kernel_rfl)) (by intro j C;simp[lyD]at C);have g4:vals 4=.agg (hsVals Sx).toArray:=f4;refine zS (args:=#[RS.val Sx]) rfl (by simp only[Yt,yM,Yh,P1,g4];rfl) (enters_of func76 (by kernel_rfl) rfl) ((fI Sx (T.map (hpT t.ground L)) W (I0.o W hJ.base.1).2 (by rw[yB];have:=M0.o T (yg D2.o);omega)).mono ?_);rintro e W' ⟨u,rfl,ho,hb⟩;rw[V1.o]at ho;exact⟨u,rfl,hJ.step M hL (by intro j C;simp[lyR]at C) (jr hJ.base D5.o (λ j C=>by simp[C]) hb) (qA ho hJ.base.2.1) (λ k hk hd hF=>jR hb hF)⟩
     ·intro L1 b W vals hL hD hC K hJ;have n7:L1 7=false:=qC hC hL (by decide) (by kernel_rfl);obtain⟨S7,_⟩:=K.val 5 144 (by kernel_rfl);have f5:=hJ.get 5 (hD 5 (by kernel_rfl)) (by intro j C;simp[lyD]at C;subst C;exact n7);obtain⟨p5,c5,h5⟩:=zf f5;obtain⟨iI,L6,I3,E9,O5⟩:=info_parts infoLs;refine qV rfl S7 underlying68 L6 I3 (by rw[E9];decide) (by rw[E9];decide) (cells:=([vals 5]:List Value).toArray) (by rw[E9,h5];exact Great.fill_flat [.slice p5 _ c5] _ (λ v hv=>by simp only[yU]at hv;subst hv;rfl) (by simp)) ?_;have hb:Below W.heap.size W (W.alloc (.cells ([vals 5]:List Value).toArray 31)):=(yf _ W).alloc (ye _) _;exact hJ.step M hL (by intro j C;simp[lyR]at C;subst C;exact hD _ (by kernel_rfl)) (jr hJ.base D5.o (λ j C=>by simp[C]) hb) (show ∃ g,_ from⟨W.heap.size,by simp,hJ.base.2.1,by simpa using yd W _⟩) (λ k hk hd hF=>jR hb hF)
     ·intro L1 b W vals hL hD hC K hJ;have G3:L1 14=false:=qC hC hL (by decide) (by kernel_rfl);have O4:L1 5=true:=(hJ.each 6 (hD 6 (by kernel_rfl))).1 5 (by simp[lyR]);obtain⟨Q7,_⟩:=K.val 0 139 (by kernel_rfl);obtain⟨S0,_⟩:=K.val 6 145 (by kernel_rfl);have f0:=hJ.get 0 (hD 0 (by kernel_rfl)) (by intro j C;simp[lyD]at C);have f6:=hJ.get 6 (hD 6 (by kernel_rfl)) (by intro j C;simp[lyD]at C;subst C;exact hL);have f5:=hJ.get 5 O4 (by intro j C;simp[lyD]at C;subst C;exact hL);obtain⟨gn,hv,_,V5⟩:=f6;obtain⟨p5,c5,h5⟩:=zf f5;obtain⟨iI,L6,I3,E9,O5⟩:=info_parts infoLs;have hq:=hJ.base.2.2.1 hL;obtain⟨v',W',hr,ho,B6,_,O⟩:=run_append_own_at (P:=Tryz.prog) W B2 68 68 31 iI _ 1 24 underlying68 L6 I3 E9 O5 rfl (by decide) u19 Y.length ps hq.own ⟨gn,0,none⟩ 1 1 [vals 5] rfl (zD V5) (λ x hx=>by simp only[yU]at hx;subst hx;rw[h5];rfl) W7.o W8.o (yJ D5.o hJ.base.2.1);refine qI rfl (Q7.trans f0) (S0.trans hv) hr ?_;have F6:BelowBut B2 w3.heap.size w9 W':=hJ.base.1.grown B6 (yJ D5.o hJ.base.2.1) λ k hk=>.inl (qg hq.own hk).1;have O2:W'.heap[w3.heap.size]?=W.heap[w3.heap.size]?:=B6.block _ (ya.1 (hJ.base.2.2.2 G3)).1 λ e=>by have F:=(qg hq.own e.symm).1;have Z:=S9.o;omega
      exact hJ.step M hL (by intro j C;simp[lyR]at C;subst C;exact O4) ⟨F6,yJ hJ.base.2.1 B6.size,λ h=>by simp at h,λ h=>O2.trans (hJ.base.2.2.2 G3)⟩ (OwnLs.snoc (by decide) hq (qA f5 D5.o) ho B6) (λ k hk hd hF=>yy (i:=k) (by rintro rfl;have:=hd 7 (by simp[lyD]);simp at this) (by rintro rfl;have:=hd 7 (by simp[lyD]);simp at this) (by rintro rfl;rw[hk]at hL;cases hL) (by rintro rfl;rw[hk]at G3;cases G3) hF)
     ·intro L1 b W vals hL hD hC K hJ;have e9:b.eval (.tmp 9)=(.slice (some xa) Ts.length vc):=(K.was 9 (by kernel_rfl)).trans rfl;refine qE rfl ?_;rw[e9];exact(hJ.still M X hL (by intro j C;simp[lyR]at C) rfl)
     ·intro L1 b W vals hL hD hC K hJ;have M4:b.eval (.tmp 21)=(.int .i64 k):=(K.was 21 (by kernel_rfl)).trans rfl;refine qE rfl ?_;rw[M4];exact(hJ.still M X hL (by intro j C;simp[lyR]at C) rfl)
     ·intro L1 b W vals hL hD hC K hJ;obtain⟨N3,_⟩:=K.val 8 147 (by kernel_rfl);obtain⟨N8,_⟩:=K.val 9 148 (by kernel_rfl);have f8:=hJ.get 8 (hD 8 (by kernel_rfl)) (by intro j C;simp[lyD]at C);have f9:=hJ.get 9 (hD 9 (by kernel_rfl)) (by intro j C;simp[lyD]at C);refine lu_v (I:=Instr.indexAt 96 (b.eval (.tmp 147)) (b.eval (.tmp 148))) rfl ?_ (hJ.still M X hL (by intro j C;simp[lyR]at C) rfl);rw[N3,f8,N8,f9];exact oE W xa Q1.o
     ·intro L1 b W vals hL hD hC K hJ;obtain⟨P5,_⟩:=K.val 10 149 (by kernel_rfl);have W5:=hJ.get 10 (hD 10 (by kernel_rfl)) (by intro j C;simp[lyD]at C);refine lu_v (I:=Instr.fieldAt 108 (b.eval (.tmp 149)) 3) rfl (u:=_) ?_ (hJ.still M X hL (by intro j C;simp[lyR]at C) rfl);rw[P5,W5];kernel_rfl
     ·intro L1 b W vals hL hD hC K hJ;obtain⟨Q9,_⟩:=K.val 11 150 (by kernel_rfl);have T4:=hJ.get 11 (hD 11 (by kernel_rfl)) (by intro j C;simp[lyD]at C);refine lu_v (I:=Instr.loadAt 105 (b.eval (.tmp 150))) rfl ?_ (hJ.still M X hL (by intro j C;simp[lyR]at C) rfl);rw[Q9,T4];exact DH (I0.o W hJ.base.1).1 F3.o
     ·intro L1 b W vals hL hD hC K hJ;obtain⟨N2,_⟩:=K.val 7 146 (by kernel_rfl);refine dE rfl ?_;rw[N2];exact(hJ.still M X hL (by intro j C;simp[lyR]at C;subst C;exact hD _ (by kernel_rfl)) rfl)
     intro L1 b W vals hL hD hC K hJ;have e8:b.eval (.tmp 8)=(.pointer (some ⟨w3.heap.size,0,none⟩)):=(K.was 8 (by kernel_rfl)).trans rfl;obtain⟨O7,_⟩:=K.val 12 151 (by kernel_rfl);have T9:=hJ.get 12 (hD 12 (by kernel_rfl)) (by intro j C;simp[lyD]at C);refine lN (t:=105) (g:=w3.heap.size) (cells:=(zad Sx.joint).toArray) rfl e8 (O7.trans T9) (hJ.base.2.2.2 hL) (show _=some (zad Sx.joint).toArray.size from aZ) (by simp[zad]) (by simp[zad,Value.oneCell']) ?_;exact hJ.step M hL (by intro j C;simp[lyR]at C) ⟨hJ.base.1.row _,by simpa using hJ.base.2.1,λ h=>by have h7:=hD 7 (by kernel_rfl);simp[h7]at h,λ h=>by simp at h⟩ (show (W.setRow w3.heap.size (zad Sx.joint).toArray).heap[w3.heap.size]?=_ from setRow_heap _ _ _ _ _ _ (hJ.base.2.2.2 hL)) (λ k hk hd hF=>AG S9.o D5.o _ (by rintro rfl;rw[hk]at hL;cases hL) hF)
    intro L1 vals W hL hJ;have f7:=hJ.get 7 (hL 7 (by decide)) (by intro j C;simp[lyD]at C);have R3:=hJ.get 13 (hL 13 (by decide)) (by intro j C;simp[lyD]at C);have S4:=hJ.get 14 (hL 14 (by decide)) (by intro j C;simp[lyD]at C);have P9:vals 13=vals 7:=R3;have V7:Hid (BelowBut B2 w3.heap.size w9 W/\W.heap[w3.heap.size]?=some (.cells (zad (wordsE (jointT T) L)).toArray 105 (0,0))/\OwnLs RL 31 W B2 (vals 7) (ps++[vals 5]) ((pl++[T]).map λ T=>T.map (·.ld))/\planT t.ground Ts m P0=(planT t.ground Ts U (jointT T)).map ((pl++[T])++·)/\(pl++[T]).length+U=m):=yK (by
     refine⟨hJ.base.1,?_,?_,?_,?_⟩
     ·rw[<- Q4.o];exact S4
     ·rw[Yl,W0.o];exact f7
     ·rw[J.o.2.2.2.1,Q5.o,Option.map_map];congr 1
      funext l
      simp
     have:=J.o.2.2.2.2;rw[yL,List.length_singleton];omega)
    have X3:wrap64 ((U:Int)-1)=(U:Int)-1:=(by have:=HN.o;unfold wrap64;omega);clear hJ hL f7 R3 S4 M X;simp only[yA,yN,Yk,YD,Yj,Yf,yM,Yh,putAll,Act.put,yr,yF,yE,P9];clear P9;go_wp2_with fail
    go_roundw
    case rel=>exact⟨U,_,_,_,_,by omega,rfl,by omega,V7⟩
    case measure=>simp only[intOf];omega
def zU:Tk:=⟨qF 2 2,[qF 2 1],[2],[],[]⟩
def zeO:Tk:=⟨qF 3 1,[qF 2 1],[2],[],[]⟩
def tilA:List Ld:=[⟨0,false,0,0,0⟩,⟨0,false,0,0,1⟩]
def tilB:List Ld:=[⟨0,false,1,0,0⟩,⟨0,false,1,1,0⟩]
theorem dI:OkT zU:=(jD rfl).2 (by decide +kernel)
theorem Bd:OkT zeO:=(jD rfl).2 (by decide +kernel)
theorem rL:countT zU=(2,1,5,0):=by decide +kernel
theorem wQ:firstT zU=(tilA,0):=by decide +kernel
theorem fM:coversT zU tilA=(0,0)/\coversT zU tilB=(0,0)/\coversT zU (tilA.take 1)=(4,8):=by decide +kernel
theorem lg:nextT zU (parts zU tilA)=(tilB,0)/\nextT zU (parts zU tilB)=([],7):=by decide +kernel
theorem xk:layersT zU 2=([tilA,tilB],0):=by decide +kernel
theorem Bn:whyT zeO=(2,0):=by decide +kernel
