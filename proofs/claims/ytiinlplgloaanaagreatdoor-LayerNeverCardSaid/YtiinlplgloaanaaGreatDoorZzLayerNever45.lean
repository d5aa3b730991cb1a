/- Plain: what chapter 7's known asks. -/
import Derived.Test.YtiinlplgloaanaaGreatDoorZzLayerNever44
set_option linter.all false
set_option maxRecDepth 100000
set_option maxHeartbeats 16000000
namespace Go.Proofs.YtiinlplgloaanaaGreatDoor
open Go.Proofs.Tryz Go.RowKit
attribute [local go_sem] Oper.semAt_some
def zbT (t:Tk) (n:Int) (w:World) (e:Ending) (w':World):Prop:=∃ (u:Value) (us:List Value) (code:Nat),e=.returned (.tuple #[u,.int .i64 code])∧Below w.heap.size w w' ∧
 ((u=.slice none 0 0∧((¬ OkT t∧code=2)∨(OkT t∧¬ (1≤n∧n≤5)∧code=3))) ∨
  (OkT t∧1≤n∧n≤5∧OwnLs RL 31 w' w.heap.size u us (layersT t n.toNat).1∧code=(layersT t n.toNat).2))
theorem zbF {t:Tk} {w w':World} {n:Nat} (ho:OkT t) (h1:1≤n) (h5:n≤5) (hB:Below w.heap.size w w') {c:Nat} (hl:layersT t n=([],c)):zbT t (n:Int) w (.returned (.tuple #[.slice none 0 0,.int .i64 c])) w' :=
 ⟨_,[],c,rfl,hB,.inr ⟨ho,by omega,by omega,by rw[Int.toNat_natCast,hl];exact OwnLs.nil _ _ _ _,by rw[Int.toNat_natCast,hl]⟩⟩
theorem infoBool:(Tryz.prog.info? 4).map (λ i=>(i.zero,i.size,i.bytes))=some (some (.bool false),1,1):=by kernel_rfl
theorem infoLs:(Tryz.prog.info? 31).map (λ i=>(i.zero,i.size,i.bytes))=some (some (.slice none 0 0),1,24):=by kernel_rfl
theorem zec {m:Nat} (h1:1≤m) (h5:m≤5) (w:World):(Instr.makeSlice 160 (.int .i64 m) (.int .i64 m)).run Tryz.prog w=.ok (.slice (some ⟨w.heap.size,0,none⟩) m m) (w.alloc (.cells (Array.replicate m (.slice none 0 0)) 88)):=by
 rcases (by omega:m=1∨m=2∨m=3∨m=4∨m=5)with rfl|rfl|rfl|rfl|rfl <;> kernel_rfl
theorem zfg {t:Tk} (n:Int) (w:World) (vg vk vc vf vb:Value) (hg:HasQ w vg t.ground) (hk:HasQQ w vk t.kinds) (hc:RI.Has w vc t.counts) (hcf:flatV vc) (hf:RL.Has w vf t.fixed) (hb:RE.Has w vb t.below) (hcl:t.counts.length≤1000) (hbl:t.below.length≤1000000) (htb:TbAt w) :
  Calls Tryz.prog 32 #[.agg #[vg,vk,vc,vf,vb],.int .i64 n] w (zbT t n w):=by
 obtain⟨gp,gc,rfl⟩:=hg.slice;obtain⟨kp,kc,rfl⟩:=hk.slice;obtain⟨cp,cc,rfl⟩:=hc.slice;obtain⟨fp,fc,rfl⟩:=hf.slice;obtain⟨bp,bc,rfl⟩:=hb.slice;have HCK:Hid (∀ W,Below w.heap.size w W→Calls Tryz.prog 13 #[.agg #[.slice gp t.ground.length gc,.slice kp t.kinds.length kc,.slice cp t.counts.length cc,.slice fp t.fixed.length fc,.slice bp t.below.length bc]] W (CkPost t W)):=yK
  λ W h=>qan W _ _ _ _ _ (hg.below h) (hk.below h) (hc.below h) (hf.below h) (hb.below h) hcl hbl
 have HLY:Hid (∀ W,Below w.heap.size w W→OkT t→Calls Tryz.prog 37 #[.agg #[.slice gp t.ground.length gc,.slice kp t.kinds.length kc,.slice cp t.counts.length cc,.slice fp t.fixed.length fc,.slice bp t.below.length bc]] W λ e w'=>∃ (bb:Nat) (bv:BV) (L:List E),e=.returned (.pointer (some ⟨bb,0,none⟩))∧W.heap.size≤bb∧BdAt w' bb bv t L (pcsT t L) (belT t L)∧LOk t.ground L∧Below W.heap.size W w'∧BvOwn w' W.heap.size bv (.slice gp t.ground.length gc) (.slice kp t.kinds.length kc) (.slice cp t.counts.length cc) (.slice fp t.fixed.length fc) (.slice bp t.below.length bc) (pcsT t L)):=yK
  λ W h ho=>zbh ho W _ _ _ _ _ (hg.below h) (hk.below h) (hc.below h) hcf (hf.below h) (hb.below h)
 have HARG:Hid (∀ W,Below w.heap.size w W→HasQ W (.slice gp t.ground.length gc) t.ground∧HasQQ W (.slice kp t.kinds.length kc) t.kinds∧RI.Has W (.slice cp t.counts.length cc) t.counts∧RL.Has W (.slice fp t.fixed.length fc) t.fixed∧RE.Has W (.slice bp t.below.length bc) t.below):=yK
  λ W h=>⟨hg.below h,hk.below h,hc.below h,hf.below h,hb.below h⟩
 have HTB:=yK htb;clear htb hg hk hc hf hb hcf;generalize hpo:zbT t n w=Po;have HPO:=yK hpo;clear hpo;go_enter func32,ntmps32;go_wp2_with fail;have hT:=yd w (.cells #[.slice gp t.ground.length gc,.slice kp t.kinds.length kc,.slice cp t.counts.length cc,.slice fp t.fixed.length fc,.slice bp t.below.length bc] 34);have hB:Below w.heap.size w (w.alloc (.cells #[.slice gp t.ground.length gc,.slice kp t.kinds.length kc,.slice cp t.counts.length cc,.slice fp t.fixed.length fc,.slice bp t.below.length bc] 34)):=(yf _ w).alloc (ye _) _;revert hT hB;generalize w.alloc (.cells #[.slice gp t.ground.length gc,.slice kp t.kinds.length kc,.slice cp t.counts.length cc,.slice fp t.fixed.length fc,.slice bp t.below.length bc] 34)=w1;intro hT hB;have HB:=yK hB;clear hB;have htl:=(ya.1 hT).1;refine (HCK.out w1 HB.out).mono ?_;rintro e w2 ⟨code,rfl,h0,h2,hB2⟩;have hT2:=(hB2.block _ htl).trans hT;have HB2:=yK (HB.out.trans (hB2.mono HB.out.size));clear hB2 HB htl;have hcell:∀ j,w2.cell? ⟨w.heap.size,j,none⟩=(#[.slice gp t.ground.length gc,.slice kp t.kinds.length kc,.slice cp t.counts.length cc,.slice fp t.fixed.length fc,.slice bp t.below.length bc]:Array Value)[j]?:=λ j=>by simp only[World.cell?,hT2];simp
 have c0:=hcell 0;have c1:=hcell 1;have c2:=hcell 2;have c3:=hcell 3;have c4:=hcell 4;simp at c0 c1 c2 c3 c4;clear hcell hT HCK hT2;rcases h2 with rfl|rfl
 case inr =>
  have HN:Hid (¬ OkT t):=yK λ h=>absurd (h0.2 h) (by decide);clear HLY h0 c0 c1 c2 c3 c4;go_wp2_with fail;rw[← HPO.out];exact⟨_,[],2,rfl,HB2.out,.inl ⟨rfl,.inl ⟨HN.out,rfl⟩⟩⟩
 case inl =>
  have HOK:Hid (OkT t):=yK (h0.1 rfl);have HL:=yK (HLY.out w2 HB2.out HOK.out);clear HLY h0;by_cases hn:1≤n∧n≤5
  case neg =>
   have HW:Hid (∀ W,Calls Tryz.prog 43 #[.int .i64 n,.int .i64 1,.int .i64 5] W λ e w'=>e=.returned (.bool false)∧W=w'):=yK λ W=>by
    refine (zB n 1 5 W).mono ?_;rintro e w' ⟨rfl,rfl⟩;exact⟨qK (yv hn),rfl⟩
   have HNN:=yK hn;clear HL c0 c1 c2 c3 c4 hn;go_wp2_with fail;refine (HW.out w2).mono ?_;rintro e w3 ⟨rfl,rfl⟩;clear HW;go_wp2_with fail
   skip
   rw[← HPO.out];exact⟨_,[],3,rfl,HB2.out,.inl ⟨rfl,.inr ⟨HOK.out,HNN.out,rfl⟩⟩⟩
  obtain⟨m,rfl⟩:∃ m:Nat,n=(m:Int):=⟨n.toNat,by omega⟩;have HN:Hid (1≤m∧m≤5):=yK (by omega);have HW:Hid (∀ W,Calls Tryz.prog 43 #[.int .i64 (m:Int),.int .i64 1,.int .i64 5] W λ e w'=>e=.returned (.bool true)∧W=w'):=yK λ W=>by
   refine (zB m 1 5 W).mono ?_;rintro e w' ⟨rfl,rfl⟩;exact⟨qK (yw hn),rfl⟩
  clear hn;go_wp2_with fail;refine (HW.out w2).mono ?_;rintro e w3 ⟨rfl,rfl⟩;clear HW;go_wp2_with fail;refine HL.out.mono ?_;rintro e w3 ⟨bb,bv,L,rfl,hbb,hbd,hlok,hB3,hbo⟩;have HB3:=yK (HB2.out.trans (hB3.mono HB2.out.size));have HBB:Hid (w.heap.size≤bb∧bb<w3.heap.size):=yK ⟨yJ HB2.out.size hbb,(ya.1 hbd.blk).1⟩;have HLK:=yK hlok;have HGI:Hid (∀ q∈t.ground,inQ q):=yK λ q hq=>(ql HOK.out.ground).1.1 q hq;have HOW:Hid (∀ P:E→Bool,okW (wordsE P L)):=yK λ P=>zX _ _;have HOV:=yK (λ P R=>qg3 HGI.out HLK.out (qX HOK.out HLK.out).l192 P R);have HBD:=yK hbd;have HBO:=yK hbo;have hwb:=HOW.out (λ e=>decide (e∈t.below));obtain⟨⟨b0,b1,b2⟩,hbe⟩:∃ b,wordsE (λ e=>decide (e∈t.below)) L=b:=⟨_,rfl⟩;have HBE:=yK hbe;have hblk:=hbd.blk;rw[show belT t L=(b0,b1,b2)from hbe]at hblk;have e8:w3.cell? ⟨bb,8,none⟩=some (.int .u64 b0):=by simp only[World.cell?,hblk];rfl
  have e9:w3.cell? ⟨bb,9,none⟩=some (.int .u64 b1):=by simp only[World.cell?,hblk];rfl
  have e10:w3.cell? ⟨bb,10,none⟩=some (.int .u64 b2):=by simp only[World.cell?,hblk];rfl
  clear hB3 hbb hbd hlok hbo hbe hblk hwb HL c0 c1 c2 c3 c4;go_upto_region 8 with fail;clear e8 e9 e10;have hal:Below w3.heap.size w3 (w3.alloc (.cells #[.int .u64 b0,.int .u64 b1,.int .u64 b2] 105)):=(yf _ w3).alloc (ye _) _;have hq4:=yd w3 (.cells #[.int .u64 b0,.int .u64 b1,.int .u64 b2] 105);have HB4:=yK (HB3.out.trans (hal.mono HB3.out.size));have HBD4:=yK (HBD.out.keep hal);have HBO4:Hid (BvOwn (w3.alloc (.cells #[.int .u64 b0,.int .u64 b1,.int .u64 b2] 105)) w2.heap.size bv (.slice gp t.ground.length gc) (.slice kp t.kinds.length kc) (.slice cp t.counts.length cc) (.slice fp t.fixed.length fc) (.slice bp t.below.length bc) (pcsT t L)) :=
   yK ⟨HBO.out.g,HBO.out.k,HBO.out.c,HBO.out.f,HBO.out.b,HBO.out.qm,HBO.out.em,HBO.out.pp.below hal⟩
  have HQ4:=yK hq4;have HZ3:Hid (w3.heap.size<(w3.alloc (.cells #[.int .u64 b0,.int .u64 b1,.int .u64 b2] 105)).heap.size):=yK (by rw[yp];exact Nat.lt_succ_self _);clear HBD HBO hal hq4;revert HB4 HBD4 HBO4 HQ4 HZ3;change _→_→_→_→_→Code.wp _ _ _ _ (w3.alloc (.cells #[.int .u64 b0,.int .u64 b1,.int .u64 b2] 105));generalize w3.alloc (.cells #[.int .u64 b0,.int .u64 b1,.int .u64 b2] 105)=w4;intro HB4 HBD4 HBO4 HQ4 HZ3;have HUN:=yK (zdJ (L:=L) HLK.out.nodup (λ e he=>by
   obtain⟨q,hq,h⟩:=(HLK.out.mem e).1 he;exact qaB (HGI.out q hq) e h) (qX HOK.out HLK.out).l192 [] (λ e he=>by cases he) (YC _) (.slice none 0 0) w4 bb bv.g bv.k bv.c bv.f bv.b bv.qm bv.em bv.pv (belT t L) (2 ^ t.ground.length-1) HBD4.out.blk HBD4.out.edge (.inl ⟨rfl,rfl⟩) (λ h=>absurd rfl h))
  go_wp2_with fail;refine HUN.out.mono ?_;rintro e w5 ⟨⟨v,rfl⟩,hbb5,hbut⟩;have HB5:=yK (zca HB4.out HBB.out.1 HB4.out.size hbut);obtain⟨x1,x2,x3,x4,x5⟩:=HARG.out w5 HB5.out;have HBD5:=yK (HBD4.out.free HBO4.out hbut hbb5 x1 x2 x3 x4 x5);have HQ5:Hid (w5.heap[w3.heap.size]?=some (.cells #[.int .u64 b0,.int .u64 b1,.int .u64 b2] 105 (0,0))):=yK ((hbut.block _ HZ3.out (by have:=HBB.out.2;omega)).trans HQ4.out);have HOF:=yK (qgE HOK.out);have HLF:Hid (LOk (withB t []).ground L):=yK HLK.out;have HTI:=yK (zaG HOF.out (qX HOF.out HLF.out) w5 bb bv HBD5.out (HTB.out.below HB5.out) λ W' hb' _=>za1 (qX HOF.out HLF.out) W' bb bv hb');have HSM:=yK (qau (withB t []));have HML:Hid (∀ T∈(tilingsT (withB t [])).1,T.length≤64):=yK λ T hT=>zbi (qX HOF.out HLF.out) hT λ s hs=>zaU hs;have HLT:Hid (layersT t m=if (tilingsT (withB t [])).2.2≠0 then ([],(tilingsT (withB t [])).2.2)else if 1000<(tilingsT (withB t [])).1.length then ([],8)else
   match planT t.ground (tilingsT (withB t [])).1 m (λ e=>decide (e∈t.below))with
   | none=>([],7)
   | some x=>(x.map λ T=>T.map (·.ld),0)):=yK rfl
  clear HUN hbut hbb5 x1 x2 x3 x4 x5 HBD4 HBO4 HQ4 HBD5 HOF HLF HARG HTB;revert HTI HSM HML HLT;generalize tilingsT (withB t [])=R;obtain⟨Ts,nn,code⟩:=R;simp only;intro HTI HSM HML HLT;go_wp2_with fail;refine HTI.out.mono ?_;rintro e w6 ⟨v6,rfl,hts,hB6⟩;have HTS:Hid (TsAt w6 t.ground L w5.heap.size v6 Ts):=yK hts;have HB6:=yK (HB5.out.trans (hB6.mono HB5.out.size));have HQ6:=yK ((hB6.block _ (ya.1 HQ5.out).1).trans HQ5.out);obtain⟨vp,vc,rfl⟩:=hts.slice;clear hts hB6 HTI HQ5;by_cases hcode:code=0
  case neg =>
   have hd:((code:Int) != 0)=true:=(by simpa using hcode);have HL2:Hid (layersT t m=([],code)):=yK (by rw[HLT.out,YA hcode]);clear HLT hcode;go_wp2_with fail
   skip
   rw[← HPO.out];exact zbF HOK.out HN.out.1 HN.out.2 HB6.out HL2.out
  subst hcode;by_cases hmany:1000<Ts.length
  case pos =>
   have hd:decide ((1000:Int)<(Ts.length:Int))=true:=yw (by omega);have HL2:Hid (layersT t m=([],8)):=yK (by rw[HLT.out,Yz (by decide),YA hmany]);clear HLT hmany;go_wp2_with fail
   skip
   rw[← HPO.out];exact zbF HOK.out HN.out.1 HN.out.2 HB6.out HL2.out
  have hd:decide ((1000:Int)<(Ts.length:Int))=false:=yv (by omega);have HTL:Hid (Ts.length≤1000):=yK (by omega);have HL2:Hid (layersT t m=match planT t.ground Ts m (λ e=>decide (e∈t.below))with
   | none=>([],7)
   | some x=>(x.map λ T=>T.map (·.ld),0)):=yK (by rw[HLT.out,Yz (by decide),Yz hmany])
  have hmk:=zec HN.out.1 HN.out.2;clear HLT hmany HSM;go_wp2_with fail;have hcan:=yd w6 (.cells (Array.replicate m (.slice none 0 0)) 88);have hal:Below w6.heap.size w6 (w6.alloc (.cells (Array.replicate m (.slice none 0 0)) 88)):=(yf _ w6).alloc (ye _) _;obtain⟨hown0,hfar0⟩:=OwnLs.nils (T:=88) RB hcan (ye _) (by have:=HN.out.2;simp only[maxLen];omega);have HC0:=yK (And.intro hal (And.intro hown0 hfar0));have HSTA:Hid (∃ Ss:List HS,Ss.length=Ts.length∧∀ W,(∀ k,k<w6.heap.size→k≠w3.heap.size→W.heap[k]?=w6.heap[k]?)→RS.Has W (.slice vp Ts.length vc) Ss∧∀ (i:Nat) (S:HS) (T:List Pc),Ss[i]?=some S→Ts[i]?=some T→StT t.ground L T S∧RP.Has W S.laid (T.map (hpT t.ground L))):=yK (by
   obtain⟨Ss,h1,h2,h3⟩:=HTS.out;have mv:∀ {T:TypeId} {n m:Nat} {u:Value} {xs:List Value} {W:World},T≠105→(∀ k,k<w6.heap.size→k≠w3.heap.size→W.heap[k]?=w6.heap[k]?)→w6.ownsRow w5.heap.size T n u m xs→W.ownsRow w5.heap.size T n u m xs:=λ hT h ho=>zi ho λ k hk=>by
    obtain⟨_,hkl,cur,hcu⟩:=zf ho hk;refine h k hkl λ e=>?_;rw[e,HQ6.out]at hcu;simp only[yo,Yh]at hcu;exact hT hcu.2.1.symm
   exact⟨Ss,h2,λ W h=>⟨REnc.Own.has (mv (by decide) h h1),λ i S T hS hT=>⟨(h3 i S T hS hT).1,REnc.Own.has (mv (by decide) h (h3 i S T hS hT).2)⟩⟩⟩)
  clear hcan hal hown0 hfar0 hmk hd HTS;revert HC0;change _→Code.wp _ _ _ _ (w6.alloc (.cells (Array.replicate m (.slice none 0 0)) 88));generalize w6.alloc (.cells (Array.replicate m (.slice none 0 0)) 88)=w7;intro HC0;obtain⟨Ss,hSl,hSa⟩:=HSTA.out;have HSL:=yK hSl;have HSA:=yK hSa;clear hSl hSa HSTA;obtain⟨B1,hB1⟩:∃ B1,w6.heap.size=B1:=⟨_,rfl⟩;have HB1:=yK hB1;rw[hB1]at HC0 HSA ⊢;clear hB1;go_wp2_with fail;go_loopw [58] (λ z wr=>∃ (d:Nat) (vs:List Value),d≤m∧z=.int .i64 d∧Hid (Below B1 w6 wr∧OwnLs RB 88 wr B1 (.slice (some ⟨B1,0,none⟩) m m) vs (canP t.ground Ts m d 0)∧FarVs vs)) (λ z _=>m-(intOf z).toNat)
  case atStart=>exact⟨0,_,YC _,rfl,yK ⟨HC0.out.1,by rw[zgh];exact HC0.out.2.1,HC0.out.2.2⟩⟩
  clear HC0;obtain⟨d,vs,hdm,rfl,HR⟩:=hrel;by_cases hlt:d<m
  case pos =>
   go_wp2_with fail;go_loopw [63] (λ z wr=>∃ (k:Nat) (us:List Value),k≤Ts.length∧z=.int .i64 k∧Hid (Below B1 w6 wr∧OwnLs RB 88 wr B1 (.slice (some ⟨B1,0,none⟩) m m) us (canP t.ground Ts m d k)∧FarVs us)) (λ z _=>Ts.length-(intOf z).toNat)
   case atStart=>exact⟨0,_,YC _,rfl,HR⟩
   clear HR;obtain⟨k,us,hk,rfl,HR⟩:=hrel;by_cases hkl:k<Ts.length
   case pos =>
    obtain⟨T,hT⟩:∃ T,Ts[k]?=some T:=⟨_,yb hkl⟩;obtain⟨S,hS⟩:∃ S,Ss[k]?=some S:=⟨_,yb (by rw[HSL.out];exact hkl)⟩;obtain⟨hrs,hst⟩:=HSA.out wr λ b hb _=>HR.out.1.block b hb;obtain⟨xa,rfl,hat⟩:=hrs.at_ (by rintro e;rw[e]at hS;simp at hS);have hld:(Instr.loadAt 108 (.pointer (some (xa.add (k*16))))).run Tryz.prog wr=.ok (.agg (hsVals S).toArray) wr:=qj (P:=Tryz.prog) (R:=RS) underlying108 rfl sizeS hat hS;have hsz:(Tryz.prog.info? 108).map (·.size)=some (hsVals S).toArray.size:=sizeS;have hone:(hsVals S).toArray.all (·.oneCell')=true:=(by simp[hsVals,Value.oneCell']);have HSJ:Hid (S.joint=wordsE (jointT T) L):=yK (hst k S T hS hT).1.joint;have HTK:=yK hT;have HZQ:Hid (B1≤wr.heap.size):=yK (by rw[← HB1.out];exact HR.out.1.size);clear hT hS hrs hst hat;go_upto_region 22 with (first
     | (refine zl rfl 108 _ rfl rfl hld ?_)
     | (refine wpList_store_row rfl 108 _ _ rfl wr.heap.size rfl 108 _ (hsVals S).toArray rfl (yd wr _) hsz rfl hone ?_;rw[World.setRow_alloc_new]))
    simp only[Act.put];have hSB:=yd wr (.cells (hsVals S).toArray 108);have hal:Below wr.heap.size wr (wr.alloc (.cells (hsVals S).toArray 108)):=(yf _ wr).alloc (ye _) _;have HR8:=yK (And.intro (HR.out.1.trans (hal.mono HZQ.out)) (And.intro (HR.out.2.1.below hal) HR.out.2.2));clear hld hal hsz hone HR HZQ;revert hSB HR8;change _→_→Code.wp _ _ _ _ (wr.alloc (.cells (hsVals S).toArray 108));generalize wr.alloc (.cells (hsVals S).toArray 108)=w8;generalize wr.heap.size=sb;intro hSB HR8;have hd0:((d:Int)==0)=okP t.ground Ts d k 0:=by
     rw[zgy];by_cases h:d=0
     ·subst h;rfl
     rw[yv h];simpa using h
    have HSB:=yK hSB;clear hSB;go_wp2_with fail;clear hd0;go_loopw [17,18] (λ u z wr=>∃ j:Nat,j≤Ts.length∧z=.int .i64 j∧u=.bool (okP t.ground Ts d k j)∧Hid (Below w8.heap.size w8 wr)) (λ _ z _=>Ts.length-(intOf z).toNat)
    case atStart=>exact⟨0,YC _,rfl,rfl,yK (yf _ _)⟩
    obtain⟨j,hj,rfl,rfl,HW⟩:=hrel;obtain⟨ok,hok⟩:∃ ok,okP t.ground Ts d k j=ok:=⟨_,rfl⟩;have HOKJ:=yK hok;rw[hok];clear hok;go_upto_region 24 with fail;go_cut [76]from 69 to 76 (λ u wx=>∃ r:Bool,u=.bool r∧Hid (r=true↔(j<Ts.length∧ok=false))∧wx=wr)
    case first =>
     by_cases hlt2:j<Ts.length
     ·have hd:decide ((j:Int)<(Ts.length:Int))=true:=yw (by omega);have HJL:=yK hlt2;clear hlt2
      cases ok with
      | false =>
       go_wp2_with fail
       go_meet
       case rel=>exact⟨true,rfl,yK ⟨λ _=>⟨HJL.out,by trivial⟩,λ _=>rfl⟩,rfl⟩
      | true =>
       go_wp2_with fail
       go_meet
       case rel=>exact⟨false,rfl,yK ⟨λ h=>(by cases h),λ h=>(by cases h.2)⟩,rfl⟩
     have hd:decide ((j:Int)<(Ts.length:Int))=false:=yv (by omega);have HJL:=yK hlt2;clear hlt2;go_wp2_with fail
     go_meet
     case rel=>exact⟨false,rfl,yK ⟨λ h=>(by cases h),λ h=>absurd h.1 HJL.out⟩,rfl⟩
    obtain⟨r,rfl,HX,rfl⟩:=hcut
    cases r with
    | true =>
     obtain⟨hjl,rfl⟩:=HX.out.1 rfl;obtain⟨d',hd'⟩:∃ d',d=d'+1:=by
      cases d with
      | zero=>have:=HOKJ.out;simp[okP]at this
      | succ d'=>exact⟨d',rfl⟩
     have hwr1:wrap64 ((d:Int)-1)=(d':Int):=(by have:=HN.out.2;unfold wrap64;omega);have HD:=yK hd';clear hd';obtain⟨u,hu,hcell,hfz,hru⟩:=(HR8.out.2.1.below HW.out).get (zed (g:=t.ground) (Ts:=Ts) (n:=m) (d:=d) (k:=k) (i:=d') (by have:=HD.out;omega) (by have:=HD.out;omega));obtain⟨cj,hcj⟩:∃ cj,(canRow t.ground Ts d')[j]?=some cj:=⟨_,yb (by rw[zaf];exact hjl)⟩;obtain⟨gu,cu,rfl,hcellj⟩:=qhe hru hcj;rw[zaf]at hcell;obtain⟨Tj,hTj⟩:∃ Tj,Ts[j]?=some Tj:=⟨_,yb hjl⟩;obtain⟨Sj,hSj⟩:∃ Sj,Ss[j]?=some Sj:=⟨_,yb (by rw[HSL.out];exact hjl)⟩;obtain⟨sp,sn,sc,sst,sbd,⟨s0,s1,s2⟩,smn⟩:=S;have hbx:=(HW.out.block _ (ya.1 HSB.out).1).trans HSB.out;have hw6:Below B1 w6 wc:=HR8.out.1.trans (HW.out.mono (by have:=HR8.out.1.size;rw[HB1.out]at this;exact this));obtain⟨hrs,hst⟩:=HSA.out wc λ b hb _=>hw6.block b hb;obtain⟨xa',hxe,hat⟩:=hrs.at_ (by rintro e;rw[e]at hSj;simp at hSj)
     cases hxe
     have d1:∀ d:SubW wc,d.1.cell? ⟨B1,d',none⟩=some (.slice (some ⟨gu,0,none⟩) Ts.length cu):=λ d=>qal d.2 hcell;have d2:∀ d:SubW wc,d.1.cell? ⟨gu,j,none⟩=some (.bool cj):=λ d=>qal d.2 hcellj;have ld:∀ d:SubW wc,(Instr.loadAt 108 (.pointer (some (xa.add (j*16))))).run Tryz.prog d.1=.ok (.agg (hsVals Sj).toArray) d.1:=λ d=>qj (P:=Tryz.prog) (R:=RS) underlying108 rfl sizeS (hat.below d.2) hSj;have d5:∀ d:SubW wc,d.1.cell? ⟨sb,5,none⟩=some (.int .u64 s0):=λ d=>by simp[World.cell?,d.block hbx,hsVals]
     have d6:∀ d:SubW wc,d.1.cell? ⟨sb,6,none⟩=some (.int .u64 s1):=λ d=>by simp[World.cell?,d.block hbx,hsVals]
     have d7:∀ d:SubW wc,d.1.cell? ⟨sb,7,none⟩=some (.int .u64 s2):=λ d=>by simp[World.cell?,d.block hbx,hsVals]
     have hjj:Sj.joint=wordsE (jointT Tj) L:=(hst j Sj Tj hSj hTj).1.joint;have hjk:(s0,s1,s2)=wordsE (jointT T) L:=HSJ.out;obtain⟨ov,hov⟩:∃ ov,ovP t.ground (jointT Tj) (jointT T)=ov:=⟨_,rfl⟩;have HOVJ:Hid (∀ d:SubW wc,Calls Tryz.prog 74 #[.agg (hsVals Sj).toArray,.agg #[.int .u64 s0,.int .u64 s1,.int .u64 s2]] d.1 λ e w'=>e=.returned (.bool ov)∧∃ d':SubW wc,w'=d'.1):=yK λ d=>by
      have h1:=qed Sj (s0,s1,s2) (by rw[hjj];exact HOW.out _) (by rw[hjk];exact HOW.out _) d.1;refine Calls.mono (show Calls Tryz.prog 74 _ _ _ from h1) ?_;rintro e w' ⟨rfl,hb⟩;refine⟨?_,⟨w',d.2.trans (hb.mono d.2.size)⟩,rfl⟩;have:decide (andW Sj.joint (s0,s1,s2)=(0,0,0))=ov:=by
       rw[hjj,hjk,← hov,Bool.eq_iff_iff,yS];exact HOV.out _ _
      rw[this]
     have HNX:Hid (okP t.ground Ts d k (j+1)=(cj&&ov)):=yK (by
      have h1:=qgy (g:=t.ground) hTj hcj HTK.out;have h2:=HOKJ.out;rw[HD.out]at h2 ⊢;rw[h1,h2,hov];rfl)
     have hdl:(d':Int)<(m:Int):=(by have:=HD.out;omega);have hjl2:(j:Int)<(Ts.length:Int):=(by omega);clear hu hcell hfz hru hcj hcellj hTj hSj hbx hw6 hrs hst hat hjj hjk hov;go_upto_region 26 with fail
     cases cj with
     | false =>
      refine qh 18 (by kernel_rfl) (by kernel_rfl) ?_;simp only[yh,yj,yi,yl]
      repeat (go_big_quiet_step (exact HOVJ.out _))
      refine wpQuiet_nil ?_;intro dq;have HB9:=yK (HW.out.trans (dq.2.mono HW.out.size));clear d1 d2 ld d5 d6 d7 HOVJ;revert HB9;generalize dq.1=w9;intro HB9;clear hwr1 hdl hjl2;have hTs:Ts.length≤1000:=HTL.out;go_wp2_with fail
      go_roundw
      case rel=>exact⟨j+1,by omega,by go_num,by rw[HNX.out];rfl,HB9⟩
      case measure=>simp only[intOf];omega
     | true =>
      refine qh 18 (by kernel_rfl) (by kernel_rfl) ?_;simp only[yh,yj,yi,yl]
      repeat (go_big_quiet_step (exact HOVJ.out _))
      go_big_quiet_want;refine qdO 108 _ rfl rfl (by rintro w ⟨d,rfl⟩;exact ld d) ?_;simp only[Act.put,yr,yF,yE];go_big_quiet_on
      repeat (go_big_quiet_step (exact HOVJ.out _))
      refine wpQuiet_nil ?_;intro dq;have HB9:=yK (HW.out.trans (dq.2.mono HW.out.size));clear d1 d2 ld d5 d6 d7 HOVJ;revert HB9;generalize dq.1=w9;intro HB9;clear hwr1 hdl hjl2;have hTs:Ts.length≤1000:=HTL.out;go_wp2_with fail
      go_roundw
      case rel=>exact⟨j+1,by omega,by go_num,by rw[HNX.out,Bool.true_and],HB9⟩
      case measure=>simp only[intOf];omega
    | false =>
     have HROW:Hid ((canRow t.ground Ts d)[k]?=some ok):=yK (by
      have h1:=qhx (g:=t.ground) (Ts:=Ts) (d:=d) (k:=k) (j:=j) hkl (by
       rw[HOKJ.out]
       cases ok with
       | true=>exact .inl rfl
       | false =>
        refine .inr ?_;have h2:¬ j<Ts.length:=λ h=>by
         have:=HX.out.2 ⟨h,rfl⟩;cases this
        omega)
      rw[HOKJ.out]at h1;exact h1)
     have HCS:=yK (zgv (n:=m) HROW.out);have HOL:=yK (HR8.out.2.1.below HW.out);obtain⟨u,hu,hcell,hfz,hru⟩:=HOL.out.get (zdG (g:=t.ground) (Ts:=Ts) (n:=m) (d:=d) (k:=k) hlt);have HGS:=yK (zdG (g:=t.ground) (Ts:=Ts) (n:=m) (d:=d) (k:=k) hlt);obtain⟨ls,hls⟩:∃ ls,(canRow t.ground Ts d).take k=ls:=⟨_,rfl⟩;have hlk:ls.length=k:=(by rw[← hls,Yf,zaf];omega);rw[hls]at hru HCS HGS;obtain⟨up,uc,rfl⟩:=qg hru;have HUS:=yK hu;have HRU:=yK hru;have HLK:=yK hlk;have HZW:Hid (B1≤wc.heap.size):=yK (by have h1:=HR8.out.1.size;have h2:=HW.out.size;rw[HB1.out]at h1;omega);have hsm:=HTL.out;obtain⟨iB,hiB,hzB,hsB,hbB⟩:=info_parts infoBool;have HM1:Hid (ls.length+1≤maxLen):=yK (by simp only[maxLen];omega);have HM2:Hid ((ls.length+1)*1≤140737488355328):=yK (by omega);have HCE:=yK (zI (cs:=[.bool ok]) (yd wc (.cells #[.bool ok] 4)));clear hu hls hlk hru;have hdl:(d:Int)<(m:Int):=(by omega);go_upto_region 27 with fail;go_upto_region 28 with (first
      | (at_builtin;refine wpList_append_own_at (P:=Tryz.prog) _ rfl _ _ 88 rfl B1 4 iB _ 1 1 underlying88 hiB hzB hsB hbB rfl (by decide) (.slice up ls.length uc) ls.length (RB.cells ls) rfl (qf HRU.out ((yf _ wc).alloc (ye _) _)) ⟨wc.heap.size,0,none⟩ 1 1 [.bool ok] rfl rfl HCE.out (by simp[Value.oneCell']) HM1.out HM2.out (by rw[yp];have:=HZW.out;omega) ?_;intro v' w9 hown' hgrow _ hat;obtain⟨p',c',rfl⟩:=qg hown';obtain⟨hc9,hf9⟩:=(HOL.out.below ((yf _ wc).alloc (ye _) _)).outer_kept (i:=d) (by decide) (qf HRU.out ((yf _ wc).alloc (ye _) _)) hgrow (qal ((yf _ wc).alloc (ye _) _) hcell)))
     have hgr:=(HOL.out.below ((yf _ wc).alloc (ye _) (.cells #[.bool ok] 4))).grow (by decide) HR8.out.2.2 HUS.out HGS.out hgrow (RB.own_snoc hown') hat;have hbn:Below B1 w6 (w9.setCell ⟨B1,d,none⟩ (.slice p' (ls.length+1) c')):=(((HR8.out.1.trans (HW.out.mono (by have h1:=HR8.out.1.size;rw[HB1.out]at h1;exact h1))).alloc (by have h1:=HZW.out;exact h1) (.cells #[.bool ok] 4)).grown hgrow (by rw[yp];have:=HZW.out;omega) λ b e=>(zf HRU.out e).1).trans (zbI (W:=w9) (B:=B1) (a:=⟨B1,d,none⟩) (ye _) _);have HNW:=yK (And.intro hbn (And.intro hgr.1 hgr.2));clear hbn hgr hgrow hown' hat hc9 hf9 hcell hfz hdl;revert HNW;generalize w9.setCell ⟨B1,d,none⟩ (.slice p' (ls.length+1) c')=w10;intro HNW;go_wp2_with fail
     go_roundw
     case rel=>exact⟨k+1,_,by omega,by go_num,yK ⟨HNW.out.1,by rw[← HCS.out];exact HNW.out.2.1,HNW.out.2.2⟩⟩
     case measure=>simp only[intOf];omega
   obtain rfl:k=Ts.length:=(by omega);have hm5:m≤5:=HN.out.2;go_wp2_with fail
   go_roundw
   case rel=>exact⟨d+1,us,by omega,by go_num,yK (by rw[← qf0];exact HR.out)⟩
   case measure=>simp only[intOf];omega
  obtain rfl:m=d:=by omega
  have hwr0:wrap64 ((m:Int)-1)=(m:Int)-1:=by have:=HN.out.2;unfold wrap64;omega
  have HC:=yK HR.out.2.1;have HKP:Hid (∀ k,k<B1→k≠w3.heap.size→wr.heap[k]?=w6.heap[k]?):=yK λ k hk _=>HR.out.1.block k hk;have HQ9:Hid (w3.heap.size<B1∧wr.heap[w3.heap.size]?=some (.cells #[.int .u64 b0,.int .u64 b1,.int .u64 b2] 105 (0,0))):=yK (by
   have h1:=(ya.1 HQ6.out).1;rw[HB1.out]at h1;exact⟨h1,(HR.out.1.block _ h1).trans HQ6.out⟩)
  have HB9:Hid (Below w.heap.size w wr∧B1≤wr.heap.size):=yK ⟨HB6.out.trans (HR.out.1.mono (by rw[← HB1.out];exact HB6.out.size)),by rw[← HB1.out];exact HR.out.1.size⟩;clear HR hlt;go_wp2_with fail;clear hwr0;obtain⟨w9,hw9⟩:∃ w9,w9=wr:=⟨_,rfl⟩;rw[← hw9]at HC HKP HQ9 HB9 ⊢;clear hw9;obtain⟨B2,hB2⟩:∃ B2,w9.heap.size=B2:=⟨_,rfl⟩;have HB2X:=yK hB2;clear hB2;obtain⟨P0,hP0⟩:∃ P:E→Bool,(λ e=>decide (e∈t.below))=P:=⟨_,rfl⟩;rw[hP0]at HL2 HBE;clear hP0;go_loopw [19,20] (λ u z wr=>∃ (c:Nat) (z0:Int) (us:List Value) (pl:List (List Pc)) (P:E→Bool),c≤m∧z=.int .i64 z0∧z0+1=(c:Int)∧Hid (BelowBut B2 w3.heap.size w9 wr∧wr.heap[w3.heap.size]?=some (.cells (qam (wordsE P L)).toArray 105 (0,0))∧OwnLs RL 31 wr B2 u us (pl.map λ T=>T.map (·.ld))∧planT t.ground Ts m P0=(planT t.ground Ts c P).map (pl++·)∧pl.length+c=m)) (λ _ z _=>(intOf z+1).toNat)
  case atStart=>exact⟨m,_,[],[],P0,ye _,rfl,by have:=HN.out;unfold wrap64;omega,yK ⟨BelowBut.refl _ _ _,by rw[HBE.out];exact HQ9.out.2,OwnLs.nil _ _ _ _,by simp,by simp⟩⟩
  obtain⟨c,z0,ps,pl,P,hcm,rfl,hz0,HR⟩:=hrel;by_cases hc0:c=0
  case pos =>
   have hd:decide ((0:Int)≤z0)=false:=yv (by omega);have HC0:=yK hc0;clear hc0 hz0;have HPL:Hid (layersT t m=(pl.map λ T=>T.map (·.ld),0)):=yK (by
    have h1:=HR.out.2.2.2.1;rw[HC0.out]at h1;rw[HL2.out,h1];simp[planT])
   go_wp2_with fail;rw[← HPO.out];refine⟨_,ps,0,rfl,zca HB9.out.1 HB3.out.size HB9.out.1.size (by rw[HB2X.out];exact HR.out.1),.inr ⟨HOK.out,by have:=HN.out.1;omega,by have:=HN.out.2;omega,?_,?_⟩⟩
   ·rw[Int.toNat_natCast,HPL.out];exact HR.out.2.2.1.wider (by rw[← HB2X.out];exact HB9.out.1.size)
   rw[Int.toNat_natCast,HPL.out]
  obtain⟨c',rfl⟩:∃ c',c=c'+1:=⟨c-1,by omega⟩;obtain rfl:z0=(c':Int):=by omega
  have hd:decide ((0:Int)≤(c':Int))=true:=yw (by omega);have hcm':c'<m:=by omega
  clear hc0 hz0;obtain⟨wl,hwl⟩:∃ z,z=wr:=⟨_,rfl⟩;subst hwl;have hrow:(canP t.ground Ts m m 0)[c']?=some (canRow t.ground Ts c'):=zed hcm' hcm';have hzr:=HR.out.1.size;rw[HB2X.out]at hzr;have hcan:OwnLs RB 88 wl B1 (.slice (some ⟨B1,0,none⟩) m m) vs (canP t.ground Ts m m 0):=HC.out.move λ k h1 h2=>HR.out.1.block k (by rw[← HB2X.out];exact h2) (by have:=HQ9.out.1;omega);obtain⟨u,hu,hcell,hfz,hru⟩:=hcan.get hrow;have HCELL:Hid (∀ W,Below wl.heap.size wl W→W.cell? ⟨B1,c',none⟩=some u):=yK λ W h=>qal h hcell;have HRU:Hid (∀ W,Below wl.heap.size wl W→RB.Own W B1 u (canRow t.ground Ts c')):=yK λ W h=>qf hru h;have HKR:Hid (∀ W,Below wl.heap.size wl W→∀ k,k<B1→k≠w3.heap.size→W.heap[k]?=w6.heap[k]?):=yK λ W h k h1 h2=>by
   have h3:=HB9.out.2;rw[HB2X.out]at h3;rw[h.block k (by omega),HR.out.1.block k (by omega) h2];exact HKP.out k h1 h2
  have HBQ:Hid (∀ W,Below wl.heap.size wl W→W.heap[w3.heap.size]?=some (.cells (qam (wordsE P L)).toArray 105 (0,0))):=yK λ W h=>(h.block _ (ya.1 HR.out.2.1).1).trans HR.out.2.1;clear hrow hcan hu hcell hfz hru hzr;go_wp2_with fail;go_loopw [21,117] (λ x z wr=>∃ k:Nat,k≤Ts.length∧z=.int .i64 k∧x=.int .i64 (-1)∧Hid (Below wl.heap.size wl wr∧∀ (j:Nat) (y:List Pc) (b:Bool),j<k→Ts[j]?=some y→(canRow t.ground Ts c')[j]?=some b→(b&&ovP t.ground (jointT y) P)=false)) (λ _ z _=>Ts.length-(intOf z).toNat)
  case atStart=>exact⟨0,YC _,rfl,rfl,yK ⟨yf _ _,λ j y b hj=>absurd hj (Nat.not_lt_zero _)⟩⟩
  obtain⟨k,hk,rfl,rfl,HRK⟩:=hrel;have HBK:Hid (Below w.heap.size w wr):=yK ((zca HB9.out.1 HB3.out.size HB9.out.1.size (by rw[HB2X.out];exact HR.out.1)).trans (HRK.out.1.mono (by have h1:=HB9.out.1.size;have h2:=HR.out.1.size;omega)));by_cases hkl:k<Ts.length
  case neg =>
   obtain rfl:k=Ts.length:=(by omega);have HNONE:Hid (layersT t m=([],7)):=yK (by
    have h1:=HR.out.2.2.2.1;have h2:=qgk (g:=t.ground) (Ts:=Ts) (d:=c') (P:=P) λ j y b hy hb=>HRK.out.2 j y b (yc.1 hy).1 hy hb;rw[HL2.out,h1];unfold planT;rw[h2];rfl)
   go_wp2_with fail;rw[← HPO.out];exact zbF HOK.out HN.out.1 HN.out.2 HBK.out HNONE.out
  obtain⟨T,hT⟩:∃ T,Ts[k]?=some T:=⟨_,yb hkl⟩;obtain⟨S,hS⟩:∃ S,Ss[k]?=some S:=⟨_,yb (by rw[HSL.out];exact hkl)⟩;obtain⟨hrs,hst⟩:=HSA.out wr (HKR.out wr HRK.out.1);obtain⟨xa,rfl,hat⟩:=hrs.at_ (by rintro e;rw[e]at hS;simp at hS);have hld:(Instr.loadAt 108 (.pointer (some (xa.add (k*16))))).run Tryz.prog wr=.ok (.agg (hsVals S).toArray) wr:=qj (P:=Tryz.prog) (R:=RS) underlying108 rfl sizeS hat hS;have hsz:(Tryz.prog.info? 108).map (·.size)=some (hsVals S).toArray.size:=sizeS;have hone:(hsVals S).toArray.all (·.oneCell')=true:=by simp[hsVals,Value.oneCell']
  obtain⟨ck,hck⟩:∃ ck,(canRow t.ground Ts c')[k]?=some ck:=⟨_,yb (by rw[zaf];exact hkl)⟩;obtain⟨gu,cu,rfl,hcellk⟩:=qhe (HRU.out wr HRK.out.1) hck;have hcell:=HCELL.out wr HRK.out.1;rw[zaf]at hcell;obtain⟨⟨p0,p1,p2⟩,hpe⟩:∃ p,wordsE P L=p:=⟨_,rfl⟩;have hbq:=HBQ.out wr HRK.out.1;rw[hpe]at hbq;have HPE:=yK hpe;have HSJ:Hid (S.joint=wordsE (jointT T) L):=yK (hst k S T hS hT).1.joint;have HTK:=yK hT;have HSK:=yK hS;have HCK:=yK hck;have hal:Below wr.heap.size wr (wr.alloc (.cells (hsVals S).toArray 108)):=(yf _ wr).alloc (ye _) _;have e0:(wr.alloc (.cells (hsVals S).toArray 108)).cell? ⟨w3.heap.size,0,none⟩=some (.int .u64 p0):=qal hal (by simp only[World.cell?,hbq];rfl);have e1:(wr.alloc (.cells (hsVals S).toArray 108)).cell? ⟨w3.heap.size,1,none⟩=some (.int .u64 p1):=qal hal (by simp only[World.cell?,hbq];rfl);have e2:(wr.alloc (.cells (hsVals S).toArray 108)).cell? ⟨w3.heap.size,2,none⟩=some (.int .u64 p2):=qal hal (by simp only[World.cell?,hbq];rfl);have e3:=qal hal hcell;have e4:=qal hal hcellk;have hSB:=yd wr (.cells (hsVals S).toArray 108);have HB11:=yK (HRK.out.1.trans (hal.mono HRK.out.1.size));clear hT hS hrs hst hat hck hcellk hcell hpe hbq hal;go_upto_region 38 with (first
   | (refine zl rfl 108 _ rfl rfl hld ?_)
   | (refine wpList_store_row rfl 108 _ _ rfl wr.heap.size rfl 108 _ (hsVals S).toArray rfl (yd wr _) hsz rfl hone ?_;rw[World.setRow_alloc_new]))
  try simp only[Act.put]
  clear hld;revert e0 e1 e2 e3 e4 hSB HB11;change _→_→_→_→_→_→_→Code.wp _ _ _ _ (wr.alloc (.cells (hsVals S).toArray 108));generalize wr.alloc (.cells (hsVals S).toArray 108)=w11;intro e0 e1 e2 e3 e4 hSB HB11;have hdl:(c':Int)<(m:Int):=by omega
  have hkl2:(k:Int)<(Ts.length:Int):=by omega
  cases ck with
  | false =>
   have HNX:Hid (∀ (j:Nat) (y:List Pc) (b:Bool),j<k+1→Ts[j]?=some y→(canRow t.ground Ts c')[j]?=some b→(b&&ovP t.ground (jointT y) P)=false):=yK λ j y b hj hy hb=>by
    rcases (by omega:j<k∨j=k)with h|rfl
    ·exact HRK.out.2 j y b h hy hb
    rw[HCK.out]at hb;cases hb;rfl
   have hTs:Ts.length≤1000:=HTL.out;go_wp2_with fail
   go_roundw
   case rel=>exact⟨k+1,by omega,by go_num,rfl,yK ⟨HB11.out,HNX.out⟩⟩
   case measure=>simp only[intOf];omega
  | true =>
   obtain⟨ov,hov⟩:∃ ov,ovP t.ground (jointT T) P=ov:=⟨_,rfl⟩;have HOVC:Hid (Calls Tryz.prog 74 #[.agg (hsVals S).toArray,.agg #[.int .u64 p0,.int .u64 p1,.int .u64 p2]] w11 λ e w'=>e=.returned (.bool ov)∧Below w11.heap.size w11 w'):=yK (by
    have h1:=qed S (p0,p1,p2) (by rw[HSJ.out];exact HOW.out _) (by rw[← HPE.out];exact HOW.out _) w11;refine Calls.mono (show Calls Tryz.prog 74 _ _ _ from h1) ?_;rintro e w' ⟨rfl,hb⟩;refine⟨?_,hb⟩;have:decide (andW S.joint (p0,p1,p2)=(0,0,0))=ov:=by
     rw[HSJ.out,← HPE.out,← hov,Bool.eq_iff_iff,yS];exact HOV.out _ _
    rw[this])
   have HOVV:=yK hov;clear hov;obtain⟨sp,sn,sc,sst,⟨q0,q1,q2⟩,⟨s0,s1,s2⟩,smn⟩:=S;have hbc:∀ j,w11.cell? ⟨wr.heap.size,j,none⟩=(hsVals ⟨sp,sn,sc,sst,(q0,q1,q2),(s0,s1,s2),smn⟩)[j]?:=λ j=>by simp only[World.cell?,hSB];simp
   have g0:=hbc 0;have g1:=hbc 1;have g2:=hbc 2;have g3:=hbc 3;have g4:=hbc 4;have g5:=hbc 5;have g6:=hbc 6;have g7:=hbc 7;have g8:=hbc 8;have g9:=hbc 9;have g10:=hbc 10;have g11:=hbc 11;have g12:=hbc 12;have g13:=hbc 13;have g14:=hbc 14;have g15:=hbc 15;simp[hsVals]at g0 g1 g2 g3 g4 g5 g6 g7 g8 g9 g10 g11 g12 g13 g14 g15;clear hbc hSB hsz hone;go_wp2_with fail;refine Calls.mono (show Calls Tryz.prog 74 #[.agg _,.agg #[.int .u64 p0,.int .u64 p1,.int .u64 p2]] w11 _ from HOVC.out) ?_;rintro e w12 ⟨rfl,hb12⟩;clear g0 g1 g2 g3 g4 g5 g6 g7 g8 g9 g10 g11 g12 g13 g14 g15;have HB12:=yK (HB11.out.trans (hb12.mono HB11.out.size));clear hb12 HB11 HOVC e0 e1 e2 e3 e4
   cases ov with
   | false =>
    have HNX:Hid (∀ (j:Nat) (y:List Pc) (b:Bool),j<k+1→Ts[j]?=some y→(canRow t.ground Ts c')[j]?=some b→(b&&ovP t.ground (jointT y) P)=false):=yK λ j y b hj hy hb=>by
     rcases (by omega:j<k∨j=k)with h|rfl
     ·exact HRK.out.2 j y b h hy hb
     rw[HTK.out]at hy;cases hy;rw[HOVV.out,Bool.and_false]
    have hTs:Ts.length≤1000:=HTL.out;go_wp2_with fail
    go_roundw
    case rel=>exact⟨k+1,by omega,by go_num,rfl,yK ⟨HB12.out,HNX.out⟩⟩
    case measure=>simp only[intOf];omega
   | true =>
    have HPLN:Hid (planT t.ground Ts (c'+1) P=(planT t.ground Ts c' (jointT T)).map (T :: ·)):=yK (zfo (zhs (g:=t.ground) (Ts:=Ts) (d:=c') (P:=P) HTK.out HCK.out HOVV.out HRK.out.2));have hd0:decide ((k:Int)<0)=false:=yv (by omega);go_upto_region 43 with fail;obtain⟨Sx,hSx⟩:∃ Sx:HS,Sx=⟨sp,sn,sc,sst,(q0,q1,q2),(s0,s1,s2),smn⟩:=⟨_,rfl⟩;rw[← hSx]at HSK;have HSJ2:Hid (Sx.joint=wordsE (jointT T) L):=yK (by rw[hSx];exact HSJ.out);clear hSx hd0 hdl hkl2;have HKL:Hid (k<Ts.length):=yK hkl;have HQB:Hid (w3.heap.size<B2):=yK (by have h1:=HQ9.out.1;have h2:=HB9.out.2;rw[HB2X.out]at h2;omega);have HBS:Hid (B2≤w12.heap.size):=yK (by have h1:=HR.out.1.size;have h2:=HB12.out.size;rw[HB2X.out]at h1;omega);have HSW:Hid (∀ W,BelowBut B2 w3.heap.size w9 W→RS.At W xa Ss∧RP.Has W Sx.laid (T.map (hpT t.ground L))):=yK λ W h=>by
     obtain⟨h1,h2⟩:=HSA.out W λ b hb hn=>(h.block b (by have h3:=HB9.out.2;rw[HB2X.out]at h3;omega) hn).trans (HKP.out b hb hn);obtain⟨xa',hxe,hat⟩:=h1.at_ (by rintro e;have:=HSK.out;rw[e]at this;simp at this)
     cases hxe
     exact⟨hat,(h2 k Sx T HSK.out HTK.out).2⟩
    have HNL:Hid ((T.map (hpT t.ground L)).map (·.ld)=T.map (·.ld)):=yK (by rw[List.map_map];rfl);obtain⟨pls,hpls⟩:∃ pls,(pl.map λ T=>T.map (·.ld))=pls:=⟨_,rfl⟩;have HPS:=yK hpls;have HOWN:Hid (OwnLs RL 31 wl B2 u19 ps pls):=yK (by rw[← hpls];exact HR.out.2.2.1);have HPN:Hid (pls.length≤m):=yK (by have:=HR.out.2.2.2.2;rw[← hpls,yB];omega);clear hpls;have HMA:Hid (pls.length+1≤maxLen):=yK (by have:=HPN.out;have:=HN.out.2;simp only[maxLen];omega);have HMB:Hid ((pls.length+1)*24≤140737488355328):=yK (by have:=HPN.out;have:=HN.out.2;omega);have HRL:=@zfV u19 Ts.length vc k xa Sx (T.map (·.ld)) ps pls B2 w12.heap.size w3.heap.size;have HBL:=@qd3 w9 u19 ps pls (qam (wordsE P L)).toArray B2 w12.heap.size w3.heap.size;refine zaa 153 (by kernel_rfl) (by kernel_rfl) rfl (FamJ (lyF u19 Ts.length vc k xa Sx (T.map (·.ld)) ps pls B2 w12.heap.size w3.heap.size) lyD lyR (lyB w9 u19 ps pls (qam (wordsE P L)).toArray B2 w12.heap.size w3.heap.size))
     (FamJ.start ⟨HR.out.1.trans (.of_below (HB12.out.drew.mono (by have h1:=HR.out.1.size;rw[HB2X.out]at h1;exact h1))),ye _,λ _=>HOWN.out.below HB12.out.drew,λ _=>HBQ.out _ HB12.out.drew⟩ _) ?_ ?_
    ·refine⟨?_,?_,?_,?_,?_,?_,?_,?_,?_,?_,?_,?_,?_,?_,?_,trivial⟩
     ·intro L1 b W vals hL hD hC K hJ;have e19:b.eval (.tmp 19)=u19:=(K.was 19 (by kernel_rfl)).trans rfl;refine zO rfl ?_;rw[e19];exact (hJ.still HRL HBL hL (by intro j hj;simp[lyR]at hj) rfl)
     ·intro L1 b W vals hL hD hC K hJ;have e9:b.eval (.tmp 9)=(.slice (some xa) Ts.length vc):=(K.was 9 (by kernel_rfl)).trans rfl;refine zO rfl ?_;rw[e9];exact (hJ.still HRL HBL hL (by intro j hj;simp[lyR]at hj) rfl)
     ·intro L1 b W vals hL hD hC K hJ;have e21:b.eval (.tmp 21)=(.int .i64 k):=(K.was 21 (by kernel_rfl)).trans rfl;refine zO rfl ?_;rw[e21];exact (hJ.still HRL HBL hL (by intro j hj;simp[lyR]at hj) rfl)
     ·intro L1 b W vals hL hD hC K hJ;obtain⟨e140,_⟩:=K.val 1 140 (by kernel_rfl);obtain⟨e141,_⟩:=K.val 2 141 (by kernel_rfl);have f1:=hJ.get 1 (hD 1 (by kernel_rfl)) (by intro j hj;simp[lyD]at hj);have f2:=hJ.get 2 (hD 2 (by kernel_rfl)) (by intro j hj;simp[lyD]at hj);refine lu_v (I:=Instr.indexAt 96 (b.eval (.tmp 140)) (b.eval (.tmp 141))) rfl ?_ (hJ.still HRL HBL hL (by intro j hj;simp[lyR]at hj) rfl);rw[e140,f1,e141,f2];exact zcD W xa HKL.out
     ·intro L1 b W vals hL hD hC K hJ;obtain⟨e142,_⟩:=K.val 3 142 (by kernel_rfl);have f3:=hJ.get 3 (hD 3 (by kernel_rfl)) (by intro j hj;simp[lyD]at hj);refine lu_v (I:=Instr.loadAt 108 (b.eval (.tmp 142))) rfl ?_ (hJ.still HRL HBL hL (by intro j hj;simp[lyR]at hj) rfl);rw[e142,f3];exact qj (P:=Tryz.prog) (R:=RS) underlying108 rfl sizeS (HSW.out W hJ.base.1).1 HSK.out
     ·intro L1 b W vals hL hD hC K hJ;obtain⟨e143,_⟩:=K.val 4 143 (by kernel_rfl);have f4:=hJ.get 4 (hD 4 (by kernel_rfl)) (by intro j hj;simp[lyD]at hj);have g4:vals 4=.agg (hsVals Sx).toArray:=f4;refine zS (args:=#[RS.val Sx]) rfl (by simp only[Yu,yM,Yi,e143,g4];rfl) (enters_of func76 (by kernel_rfl) rfl) ((qbW Sx (T.map (hpT t.ground L)) W (HSW.out W hJ.base.1).2 (by rw[yB];have:=HML.out T (yg HTK.out);omega)).mono ?_);rintro e W' ⟨u,rfl,ho,hb⟩;rw[HNL.out]at ho;exact⟨u,rfl,hJ.step HRL hL (by intro j hj;simp[lyR]at hj) (qec hJ.base HBS.out (λ j hj=>by simp[hj]) hb) (zG ho hJ.base.2.1) (λ k hk hd hF=>qeo hb hF)⟩
     ·intro L1 b W vals hL hD hC K hJ;have n7:L1 7=false:=zC hC hL (by decide) (by kernel_rfl);obtain⟨e144,_⟩:=K.val 5 144 (by kernel_rfl);have f5:=hJ.get 5 (hD 5 (by kernel_rfl)) (by intro j hj;simp[lyD]at hj;subst hj;exact n7);obtain⟨p5,c5,h5⟩:=qg f5;obtain⟨iI,hiI,hzI,hsI,hbI⟩:=info_parts infoLs;refine qaa rfl e144 underlying68 hiI hzI (by rw[hsI];decide) (by rw[hsI];decide) (cells:=([vals 5]:List Value).toArray) (by rw[hsI,h5];exact Great.fill_flat [.slice p5 _ c5] _ (λ v hv=>by simp only[yU]at hv;subst hv;rfl) (by simp)) ?_;have hb:Below W.heap.size W (W.alloc (.cells ([vals 5]:List Value).toArray 31)):=(yf _ W).alloc (ye _) _;exact hJ.step HRL hL (by intro j hj;simp[lyR]at hj;subst hj;exact hD _ (by kernel_rfl)) (qec hJ.base HBS.out (λ j hj=>by simp[hj]) hb) (show ∃ g,_ from⟨W.heap.size,by simp,hJ.base.2.1,by simpa using yd W _⟩) (λ k hk hd hF=>qeo hb hF)
     ·intro L1 b W vals hL hD hC K hJ;have n14:L1 14=false:=zC hC hL (by decide) (by kernel_rfl);have h5t:L1 5=true:=(hJ.each 6 (hD 6 (by kernel_rfl))).1 5 (by simp[lyR]);obtain⟨e139,_⟩:=K.val 0 139 (by kernel_rfl);obtain⟨e145,_⟩:=K.val 6 145 (by kernel_rfl);have f0:=hJ.get 0 (hD 0 (by kernel_rfl)) (by intro j hj;simp[lyD]at hj);have f6:=hJ.get 6 (hD 6 (by kernel_rfl)) (by intro j hj;simp[lyD]at hj;subst hj;exact hL);have f5:=hJ.get 5 h5t (by intro j hj;simp[lyD]at hj;subst hj;exact hL);obtain⟨gn,hv,_,hgn⟩:=f6;obtain⟨p5,c5,h5⟩:=qg f5;obtain⟨iI,hiI,hzI,hsI,hbI⟩:=info_parts infoLs;have hq:=hJ.base.2.2.1 hL;obtain⟨v',W',hr,ho,hgr,_,hat⟩:=run_append_own_at (P:=Tryz.prog) W B2 68 68 31 iI _ 1 24 underlying68 hiI hzI hsI hbI rfl (by decide) u19 pls.length ps hq.own ⟨gn,0,none⟩ 1 1 [vals 5] rfl (zI hgn) (λ x hx=>by simp only[yU]at hx;subst hx;rw[h5];rfl) HMA.out HMB.out (yJ HBS.out hJ.base.2.1);refine zZ rfl (e139.trans f0) (e145.trans hv) hr ?_;have hbb:BelowBut B2 w3.heap.size w9 W':=hJ.base.1.grown hgr (yJ HBS.out hJ.base.2.1) λ k hk=>.inl (zf hq.own hk).1;have hq14:W'.heap[w3.heap.size]?=W.heap[w3.heap.size]?:=hgr.block _ (ya.1 (hJ.base.2.2.2 n14)).1 λ e=>by have h1:=(zf hq.own e.symm).1;have h2:=HQB.out;omega
      exact hJ.step HRL hL (by intro j hj;simp[lyR]at hj;subst hj;exact h5t) ⟨hbb,yJ hJ.base.2.1 hgr.size,λ h=>by simp at h,λ h=>hq14.trans (hJ.base.2.2.2 n14)⟩ (OwnLs.snoc (by decide) hq (zG f5 HBS.out) ho hgr) (λ k hk hd hF=>qg7 (i:=k) (by rintro rfl;have:=hd 7 (by simp[lyD]);simp at this) (by rintro rfl;have:=hd 7 (by simp[lyD]);simp at this) (by rintro rfl;rw[hk]at hL;cases hL) (by rintro rfl;rw[hk]at n14;cases n14) hF)
     ·intro L1 b W vals hL hD hC K hJ;have e9:b.eval (.tmp 9)=(.slice (some xa) Ts.length vc):=(K.was 9 (by kernel_rfl)).trans rfl;refine zO rfl ?_;rw[e9];exact (hJ.still HRL HBL hL (by intro j hj;simp[lyR]at hj) rfl)
     ·intro L1 b W vals hL hD hC K hJ;have e21:b.eval (.tmp 21)=(.int .i64 k):=(K.was 21 (by kernel_rfl)).trans rfl;refine zO rfl ?_;rw[e21];exact (hJ.still HRL HBL hL (by intro j hj;simp[lyR]at hj) rfl)
     ·intro L1 b W vals hL hD hC K hJ;obtain⟨e147,_⟩:=K.val 8 147 (by kernel_rfl);obtain⟨e148,_⟩:=K.val 9 148 (by kernel_rfl);have f8:=hJ.get 8 (hD 8 (by kernel_rfl)) (by intro j hj;simp[lyD]at hj);have f9:=hJ.get 9 (hD 9 (by kernel_rfl)) (by intro j hj;simp[lyD]at hj);refine lu_v (I:=Instr.indexAt 96 (b.eval (.tmp 147)) (b.eval (.tmp 148))) rfl ?_ (hJ.still HRL HBL hL (by intro j hj;simp[lyR]at hj) rfl);rw[e147,f8,e148,f9];exact zcD W xa HKL.out
     ·intro L1 b W vals hL hD hC K hJ;obtain⟨e149,_⟩:=K.val 10 149 (by kernel_rfl);have f10:=hJ.get 10 (hD 10 (by kernel_rfl)) (by intro j hj;simp[lyD]at hj);refine lu_v (I:=Instr.fieldAt 108 (b.eval (.tmp 149)) 3) rfl (u:=_) ?_ (hJ.still HRL HBL hL (by intro j hj;simp[lyR]at hj) rfl);rw[e149,f10];kernel_rfl
     ·intro L1 b W vals hL hD hC K hJ;obtain⟨e150,_⟩:=K.val 11 150 (by kernel_rfl);have f11:=hJ.get 11 (hD 11 (by kernel_rfl)) (by intro j hj;simp[lyD]at hj);refine lu_v (I:=Instr.loadAt 105 (b.eval (.tmp 150))) rfl ?_ (hJ.still HRL HBL hL (by intro j hj;simp[lyR]at hj) rfl);rw[e150,f11];exact qfy (HSW.out W hJ.base.1).1 HSK.out
     ·intro L1 b W vals hL hD hC K hJ;obtain⟨e146,_⟩:=K.val 7 146 (by kernel_rfl);refine qaS rfl ?_;rw[e146];exact (hJ.still HRL HBL hL (by intro j hj;simp[lyR]at hj;subst hj;exact hD _ (by kernel_rfl)) rfl)
     intro L1 b W vals hL hD hC K hJ;have e8:b.eval (.tmp 8)=(.pointer (some ⟨w3.heap.size,0,none⟩)):=(K.was 8 (by kernel_rfl)).trans rfl;obtain⟨e151,_⟩:=K.val 12 151 (by kernel_rfl);have f12:=hJ.get 12 (hD 12 (by kernel_rfl)) (by intro j hj;simp[lyD]at hj);refine zbB (t:=105) (g:=w3.heap.size) (cells:=(qam Sx.joint).toArray) rfl e8 (e151.trans f12) (hJ.base.2.2.2 hL) (show _=some (qam Sx.joint).toArray.size from zbl) (by simp[qam]) (by simp[qam,Value.oneCell']) ?_;exact hJ.step HRL hL (by intro j hj;simp[lyR]at hj) ⟨hJ.base.1.row _,by simpa using hJ.base.2.1,λ h=>by have h7:=hD 7 (by kernel_rfl);simp[h7]at h,λ h=>by simp at h⟩ (show (W.setRow w3.heap.size (qam Sx.joint).toArray).heap[w3.heap.size]?=_ from setRow_heap _ _ _ _ _ _ (hJ.base.2.2.2 hL)) (λ k hk hd hF=>qhk HQB.out HBS.out _ (by rintro rfl;rw[hk]at hL;cases hL) hF)
    intro L1 vals W hL hJ;have f7:=hJ.get 7 (hL 7 (by decide)) (by intro j hj;simp[lyD]at hj);have f13:=hJ.get 13 (hL 13 (by decide)) (by intro j hj;simp[lyD]at hj);have f14:=hJ.get 14 (hL 14 (by decide)) (by intro j hj;simp[lyD]at hj);have h13:vals 13=vals 7:=f13;have HN2:Hid (BelowBut B2 w3.heap.size w9 W∧W.heap[w3.heap.size]?=some (.cells (qam (wordsE (jointT T) L)).toArray 105 (0,0))∧OwnLs RL 31 W B2 (vals 7) (ps++[vals 5]) ((pl++[T]).map λ T=>T.map (·.ld))∧planT t.ground Ts m P0=(planT t.ground Ts c' (jointT T)).map ((pl++[T])++·)∧(pl++[T]).length+c'=m):=yK (by
     refine⟨hJ.base.1,?_,?_,?_,?_⟩
     ·rw[← HSJ2.out];exact f14
     ·rw[Ym,HPS.out];exact f7
     ·rw[HR.out.2.2.2.1,HPLN.out,Option.map_map];congr 1
      funext l
      simp
     have:=HR.out.2.2.2.2;rw[yL,List.length_singleton];omega)
    have hwr2:wrap64 ((c':Int)-1)=(c':Int)-1:=(by have:=HN.out;unfold wrap64;omega);clear hJ hL f7 f13 f14 HRL HBL;simp only[yA,yN,Yl,YE,Yk,Yg,yM,Yi,putAll,Act.put,yr,yF,yE,h13];clear h13;go_wp2_with fail
    go_roundw
    case rel=>exact⟨c',_,_,_,_,by omega,rfl,by omega,HN2⟩
    case measure=>simp only[intOf];omega
def zN:Tk:=⟨qB 2 2,[qB 2 1],[2],[],[]⟩
def qdY:Tk:=⟨qB 3 1,[qB 2 1],[2],[],[]⟩
def tilA:List Ld:=[⟨0,false,0,0,0⟩,⟨0,false,0,0,1⟩]
def tilB:List Ld:=[⟨0,false,1,0,0⟩,⟨0,false,1,1,0⟩]
theorem qbu:OkT zN:=(zeU rfl).2 (by decide +kernel)
theorem zfZ:OkT qdY:=(zeU rfl).2 (by decide +kernel)
theorem zer:countT zN=(2,1,5,0):=by decide +kernel
theorem qeB:firstT zN=(tilA,0):=by decide +kernel
theorem zbo:coversT zN tilA=(0,0)∧coversT zN tilB=(0,0)∧coversT zN (tilA.take 1)=(4,8):=by decide +kernel
theorem zcS:nextT zN (parts zN tilA)=(tilB,0)∧nextT zN (parts zN tilB)=([],7):=by decide +kernel
theorem zeb:layersT zN 2=([tilA,tilB],0):=by decide +kernel
theorem zfd:whyT qdY=(2,0):=by decide +kernel
end Go.Proofs.YtiinlplgloaanaaGreatDoor
