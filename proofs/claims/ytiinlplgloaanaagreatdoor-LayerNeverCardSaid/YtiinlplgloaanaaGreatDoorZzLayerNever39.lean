/- A return of a zero struct and of a variable's row: 'return fault{}, s' (the load may come behind the first store). -/
import Derived.Test.YtiinlplgloaanaaGreatDoorZzLayerNever38
set_option linter.all false
set_option maxRecDepth 100000
set_option maxHeartbeats 8000000
namespace Go.Proofs.YtiinlplgloaanaaGreatDoor
open Go.Proofs.Tryz Go.RowKit
attribute [local go_sem] Oper.semAt_some
def findP (ps:List (List HP)) (l:Ld):Option HP:=if 0≤l.kind∧l.kind<ps.length then (ps.getD l.kind.toNat []).find? (λ p=>decide (p.ld=l))else none
def zeroP:HP:=⟨⟨0,false,0,0,0⟩,0,(0,0,0)⟩
theorem zd9 {t:Tk} {L:List E} {ps:List (List HP)} {bel:W3} (w:World) (bb:Nat) (bv:BV) (hb:BdAt w bb bv t L ps bel) (hpl:ps.length=t.kinds.length) (hk8:t.kinds.length≤8) (hsm:∀ l∈ps,l.length≤1000000) (l:Ld) :
  Calls Tryz.prog 109 #[.pointer (some ⟨bb,0,none⟩),.agg (ldVals l).toArray] w λ e w'=>e=.returned (.tuple #[RP.val ((findP ps l).getD zeroP),.bool (findP ps l).isSome])∧Below w.heap.size w w':=by
 obtain⟨vg,vk,vc,vf,vb,qm,em,pv,pvs⟩:=bv;obtain⟨kp,kc,hkv⟩:=hb.kinds.slice;simp only at hkv;subst hkv;obtain⟨pp,pc,hpv⟩:=hb.pieces.slice;simp only at hpv;subst hpv;generalize hpo:(λ (e:Ending) (w':World)=>e=.returned (.tuple #[RP.val ((findP ps l).getD zeroP),.bool (findP ps l).isSome])∧Below w.heap.size w w')=Po;have HPO:=yK hpo;clear hpo;have HB:=yK hb;clear hb;have HSM:=yK hsm;clear hsm;go_enter func109,ntmps109;go_upto_region 1 with fail;change Code.wp _ _ _ _ ((w.alloc (.cells (ldVals l).toArray 50)).alloc (.cells (hpVals zeroP).toArray 152));have hA:=heapO (.cells (hpVals zeroP).toArray 152) (yd w (.cells (ldVals l).toArray 50));have hR:=yd (w.alloc (.cells (ldVals l).toArray 50)) (.cells (hpVals zeroP).toArray 152);rw[yp]at hR;have hB1:Below w.heap.size w ((w.alloc (.cells (ldVals l).toArray 50)).alloc (.cells (hpVals zeroP).toArray 152)):=((yf _ w).alloc (ye _) _).alloc (by rw[yp];omega) _;revert hA hR hB1;generalize (w.alloc (.cells (ldVals l).toArray 50)).alloc (.cells (hpVals zeroP).toArray 152)=w1;intro hA hR hB1;have hbd:=HB.out.keep hB1;have hblk:=hbd.blk;simp only at hblk;have b1:∀ d:SubW w1,d.1.cell? ⟨bb,1,none⟩=some (.slice kp t.kinds.length kc):=λ d=>by simp only[World.cell?,d.block hblk];rfl
 have b7:∀ d:SubW w1,d.1.cell? ⟨bb,7,none⟩=some (.slice pp ps.length pc):=λ d=>by simp only[World.cell?,d.block hblk];rfl
 have l0:∀ d:SubW w1,d.1.cell? ⟨w.heap.size,0,none⟩=some (.int .i64 l.kind):=λ d=>by simp only[World.cell?,d.block hA];rfl
 have HW:Hid (∀ d:SubW w1,Calls Tryz.prog 43 #[.int .i64 l.kind,.int .i64 0,.int .i64 ((t.kinds.length:Int)-1)] d.1 λ e w'=>e=.returned (.bool (decide (0≤l.kind∧l.kind≤(t.kinds.length:Int)-1)))∧∃ d':SubW w1,w'=d'.1):=yK λ d=>by
  refine (zB l.kind 0 ((t.kinds.length:Int)-1) d.1).mono ?_;rintro e w' ⟨rfl,rfl⟩;exact⟨rfl,d,rfl⟩
 have HBD:=yK hbd;clear hbd hblk;have HA:=yK hA;clear hA;have HR:=yK hR;clear hR;have HB1:=yK hB1;clear hB1;have szr:(Tryz.prog.info? 152).map (·.size)=some (hpVals zeroP).toArray.size:=sizeP;by_cases hin:0≤l.kind∧l.kind<ps.length
 ·have hd:decide (0≤l.kind∧l.kind≤(t.kinds.length:Int)-1)=true:=yw (by omega);rw[hd]at HW;obtain⟨k,hk⟩:∃ k:Nat,l.kind=k:=⟨l.kind.toNat,by omega⟩;obtain⟨pl,hpl2⟩:∃ pl,ps[k]?=some pl:=⟨_,yb (by omega)⟩;obtain⟨pa,pvk,rfl,_,_,hcell,hhas⟩:=HBD.out.pieces.get hpl2;have HFP:Hid (findP ps l=pl.find? (λ p=>decide (p.ld=l))):=yK (by
   unfold findP;rw[YA hin,hk,Int.toNat_natCast,yu,hpl2];rfl)
  rw[hk]at HW l0;clear hd;refine qh 11 (by kernel_rfl) (by kernel_rfl) ?_;simp only[yh,yj,yi,yl]
  repeat (go_big_quiet_step ((exact HW.out _)))
  refine wpQuiet_nil ?_;intro dq;have hA3:=dq.block HA.out;have hR3:=dq.block HR.out;have hb3:=HBD.out.keep dq.2;have hB3:=HB1.out.trans (dq.2.mono HB1.out.size);have hcell3:∀ d:SubW dq.1,d.1.cell? (pa.add k)=some pvk:=λ d=>by
   obtain⟨pa',pv',e1,_,e2,e3,_⟩:=((HBD.out.keep dq.2).keep d.2).pieces.get hpl2
   cases e1
   obtain⟨pa2,pv2,f1,_,f2,f3,_⟩:=HBD.out.pieces.get hpl2
   cases f1
   rw[e2]at f2;cases f2;rw[hcell]at f3;cases f3;exact e3
  have hhas3:=hhas.below dq.2;clear b1 b7 l0 hcell hhas;revert hA3 hR3 hb3 hB3 hcell3 hhas3;generalize dq.1=w3;intro hA3 hR3 hb3 hB3 hcell3 hhas3;have hblk:=hb3.blk;simp only at hblk;have b7:∀ d:SubW w3,d.1.cell? ⟨bb,7,none⟩=some (.slice (some pa) ps.length pc):=λ d=>by simp only[World.cell?,d.block hblk];rfl
  have l0:∀ d:SubW w3,d.1.cell? ⟨w.heap.size,0,none⟩=some (.int .i64 k):=λ d=>by
   simp only[World.cell?,d.block hA3];show (ldVals l).toArray[0]?=_;simp[ldVals,hk]
  have hkl:k<ps.length:=(yc.1 hpl2).1;have hplen:=HSM.out pl (yg hpl2);have HIX:Hid (∀ d:SubW w3,Calls Tryz.prog 135 #[pvk,.func (.func 136) #[] #[.pointer (some ⟨w.heap.size,0,none⟩)]] d.1 λ e w'=>e=.returned (.int .i64 (idxI pl l))∧∃ d':SubW w3,w'=d'.1):=yK λ d=>by
   refine (qgp pl pvk l w.heap.size d.1 (hhas3.below d.2) hplen (d.block hA3)).mono ?_;rintro e w' ⟨rfl,hb'⟩;exact⟨rfl,⟨w',d.2.trans (hb'.mono d.2.size)⟩,rfl⟩
  have HR3:=yK hR3;clear hR3;have HB3:=yK hB3;clear hB3;have HBD3:=yK hb3;clear hb3 hblk;have HHS:=yK hhas3;clear hhas3;go_wp2_with fail;refine qh 11 (by kernel_rfl) (by kernel_rfl) ?_;simp only[yh,yj,yi,yl]
  repeat (go_big_quiet_step ((exact HIX.out _)))
  refine wpQuiet_nil ?_;intro dq;have hR4:=dq.block HR3.out;have hb4:=HBD3.out.keep dq.2;have hB4:=HB3.out.trans (dq.2.mono HB3.out.size);have hh4:=HHS.out.below dq.2;have hcell4:∀ d:SubW dq.1,d.1.cell? (pa.add k)=some pvk:=λ d=>hcell3 ⟨d.1,dq.2.trans (d.2.mono dq.2.size)⟩;have b7':∀ d:SubW dq.1,d.1.cell? ⟨bb,7,none⟩=some (.slice (some pa) ps.length pc):=λ d=>b7 ⟨d.1,dq.2.trans (d.2.mono dq.2.size)⟩;have l0':∀ d:SubW dq.1,d.1.cell? ⟨w.heap.size,0,none⟩=some (.int .i64 k):=λ d=>l0 ⟨d.1,dq.2.trans (d.2.mono dq.2.size)⟩;clear b7 l0 hcell3 HHS HR3 HB3 HBD3 HIX hA3;revert hR4 hb4 hB4 hh4 hcell4 b7' l0';generalize dq.1=w4;intro hR4 hb4 hB4 hh4 hcell4 b7' l0'
  cases hf:pl.findIdx? (λ p=>decide (p.ld=l))with
  | none =>
   have hx:idxI pl l=-1:=(by unfold idxI;rw[hf]);have HFN:Hid (findP ps l=none):=yK (by
    rw[HFP.out,List.find?_eq_none];rw[List.findIdx?_eq_none_iff]at hf;intro x hx;simpa using hf x hx)
   rw[hx];clear hf hx b7' l0' hcell4;go_wp2_with (refine wpList_store_row rfl 152 _ _ rfl (w.heap.size+1) rfl 152 _ (hpVals zeroP).toArray rfl hR4 szr rfl (by simp[hpVals,Value.oneCell']) ?_);refine Yc (zF rfl underlying152 rfl _ _ (w.heap.size+1) (hpVals zeroP).toArray (0,0) (.bool false) (setRow_heap _ _ _ _ _ _ hR4) szr rfl rfl) rfl ?_;rw[← HPO.out];exact⟨by rw[HFN.out];rfl,zg hB4 (YF _) _⟩
  | some i =>
   have hx:idxI pl l=i:=(by unfold idxI;rw[hf]);obtain⟨hi,hpi,hpj⟩:=List.findIdx?_eq_some_iff_getElem.1 hf;obtain⟨p,hp⟩:∃ p,pl[i]?=some p:=⟨_,yb hi⟩;have HFN:Hid (findP ps l=some p):=yK (by
    have he:pl[i]=p:=(by rw[yb hi]at hp;exact Option.some.inj hp);rw[HFP.out,List.find?_eq_some_iff_getElem];exact⟨by rw[← he];exact hpi,i,hi,he,λ j hj=>by simpa using hpj j hj⟩)
   rw[hx];obtain⟨xp,xc,rfl⟩:=hh4.slice;have hrow:∀ d:SubW w4,∃ xa,xp=some xa∧(Instr.loadAt 152 (.pointer (some (xa.add (i*9))))).run Tryz.prog d.1=.ok (.agg (hpVals p).toArray) d.1:=λ d=>by
    obtain⟨xa,e,hat⟩:=(hh4.below d.2).at_ (by rintro e;rw[e]at hp;simp at hp);exact⟨xa,e,qj (P:=Tryz.prog) (R:=RP) underlying152 rfl sizeP hat hp⟩
   obtain⟨xa,rfl,_⟩:=hrow ⟨w4,yf _ _⟩;have hld:∀ d:SubW w4,(Instr.loadAt 152 (.pointer (some (xa.add (i*9))))).run Tryz.prog d.1=.ok (.agg (hpVals p).toArray) d.1:=λ d=>by
    obtain⟨xa',e,h⟩:=hrow d
    cases e;exact h
   have HR4:=yK hR4;clear hR4;have HB4:=yK hB4;clear hB4;clear hf hx hpi hpj hrow hh4;go_wp2_with fail;refine qh 11 (by kernel_rfl) (by kernel_rfl) ?_;simp only[yh,yj,yi,yl]
   repeat (first|((go_big_quiet_want;refine qC 152 _ rfl rfl (by rintro w ⟨d,rfl⟩;exact hld d) ?_;simp only[Act.put,yr,yF,yE];go_big_quiet_on))|go_big_quiet_step (fail))
   refine wpQuiet_nil ?_;intro dq;have hR5:=dq.block HR4.out;have hB5:=HB4.out.trans (dq.2.mono HB4.out.size);clear b7' l0' hcell4 hld;revert hR5 hB5;generalize dq.1=w5;intro hR5 hB5;have szp:(Tryz.prog.info? 152).map (·.size)=some (hpVals p).toArray.size:=sizeP;go_wp2_with (refine wpList_store_row rfl 152 _ _ rfl (w.heap.size+1) rfl 152 _ (hpVals p).toArray rfl hR5 szp rfl (by simp[hpVals,Value.oneCell']) ?_);refine Yc (zF rfl underlying152 rfl _ _ (w.heap.size+1) (hpVals p).toArray (0,0) (.bool true) (setRow_heap _ _ _ _ _ _ hR5) szp rfl rfl) rfl ?_;rw[← HPO.out];exact⟨by rw[HFN.out];rfl,zg hB5 (YF _) _⟩
 ·have hd:decide (0≤l.kind∧l.kind≤(t.kinds.length:Int)-1)=false:=yv (by omega);rw[hd]at HW;have HFP:Hid (findP ps l=none):=yK (Yz hin);clear hin hd;refine qh 11 (by kernel_rfl) (by kernel_rfl) ?_;simp only[yh,yj,yi,yl]
  repeat (go_big_quiet_step ((exact HW.out _)))
  refine wpQuiet_nil ?_;intro dq;have hR2:=dq.block HR.out;have hB2:=HB1.out.trans (dq.2.mono HB1.out.size);clear b1 b7 l0;revert hR2 hB2;generalize dq.1=w2;intro hR2 hB2;go_wp2_with (refine wpList_store_row rfl 152 _ _ rfl (w.heap.size+1) rfl 152 _ (hpVals zeroP).toArray rfl hR2 szr rfl (by simp[hpVals,Value.oneCell']) ?_);refine Yc (zF rfl underlying152 rfl _ _ (w.heap.size+1) (hpVals zeroP).toArray (0,0) (.bool false) (setRow_heap _ _ _ _ _ _ hR2) szr rfl rfl) rfl ?_;rw[← HPO.out];exact⟨by rw[HFP.out];rfl,zg hB2 (YF _) _⟩
def stepR (t:Tk) (s:Option (List Pc)) (l:Ld):Option (List Pc):=match s with|none=>none|some s=>match findT t l with|none=>none|some p=>putT t s p
def foldR (t:Tk) (k:Nat):Option (List Pc):=(t.fixed.take k).foldl (stepR t) (some [])
theorem qdH (t:Tk):foldR t t.fixed.length=rootT t:=by unfold foldR;rw[Yd];rfl
theorem ze8 {t:Tk} {k:Nat} {l:Ld} (h:t.fixed[k]?=some l):foldR t (k+1)=stepR t (foldR t k) l:=by
 unfold foldR;rw[qo h,List.foldl_append];rfl
theorem zbU (t:Tk):∀ l:List Ld,l.foldl (stepR t) none=none
 | []=>rfl
 | _ :: l=>zbU t l
theorem qcR {t:Tk} {k:Nat} (h:foldR t k=none):rootT t=none:=by
 rw[← qdH];have e:t.fixed=t.fixed.take k++t.fixed.drop k:=(List.take_append_drop k _).symm;unfold foldR at *;rw[Yd]
 conv=>lhs;rw[e]
 rw[List.foldl_append,h,zbU]
theorem qeb (t:Tk) (L:List E) (l:Ld):findP (pcsT t L) l=(findT t l).map (hpT t.ground L):=by
 unfold findP findT pcsT;rw[yB,zA];by_cases h:0≤l.kind∧l.kind<(t.kinds.length:Int)
 ·rw[YA h,YA h,yu,yQ,yu];obtain⟨pl,hpl⟩:∃ pl,(piecesT t)[l.kind.toNat]?=some pl:=⟨_,yb (by rw[zA];omega)⟩;rw[hpl];show (pl.map (hpT t.ground L)).find? _=(pl.find? _).map _;rw[List.find?_map];rfl
 rw[Yz h,Yz h];rfl
theorem zb9 {t:Tk} {l:Ld} {p:Pc} (h:findT t l=some p):∃ (k:Nat) (pl:List Pc),(piecesT t)[k]?=some pl∧p∈pl∧p.ld=l:=by
 unfold findT at h;split at h
 ·rename_i hk;obtain⟨pl,hpl⟩:∃ pl,(piecesT t)[l.kind.toNat]?=some pl:=⟨_,yb (by rw[zA];omega)⟩;rw[yu,hpl]at h;exact⟨_,pl,hpl,List.mem_of_find?_eq_some h,by simpa using List.find?_some h⟩
 cases h
structure RtI (t:Tk) (L:List E) (w:World) (bb:Nat) (bv:BV) (s:List Pc) (S:HS) (W:World):Prop where
 box:W.heap[w.heap.size]?=some (.cells (hsVals S).toArray 108 (0,0))
 st:StT t.ground L s S
 own:RP.Own W w.heap.size S.laid (s.map (hpT t.ground L))
 good:GoodT t s
 bd:BdAt W bb bv t L (pcsT t L) (belT t L)
 below:Below w.heap.size w W
theorem RtI.keep {t:Tk} {L:List E} {w:World} {bb:Nat} {bv:BV} {s:List Pc} {S:HS} {W W':World} (h:RtI t L w bb bv s S W) (e:Below W.heap.size W W'):RtI t L w bb bv s S W' :=
 ⟨(e.block _ (ya.1 h.box).1).trans h.box,h.st,qf h.own e,h.good,h.bd.keep e,h.below.trans (e.mono h.below.size)⟩
theorem za1 {t:Tk} {L:List E} (ok:TkOk t L) (w:World) (bb:Nat) (bv:BV) (hb:BdAt w bb bv t L (pcsT t L) (belT t L)) :
  Calls Tryz.prog 65 #[.pointer (some ⟨bb,0,none⟩)] w (RootPost t L w):=by
 have hsm:∀ l∈pcsT t L,l.length≤1000000:=λ l hl=>by
  obtain⟨x,hx,rfl⟩:=yP.1 hl;obtain⟨⟨s,k⟩,_,rfl⟩:=yP.1 hx;rw[yB];have:=zaV s t.ground;show (piecesK t.ground k s).length≤_;unfold piecesK;rw[yB];omega
 have hplen:(pcsT t L).length=t.kinds.length:=by unfold pcsT;rw[yB,zA]
 obtain⟨vg,vk,vc,vf,vb,qm,em,pv,pvs⟩:=bv;obtain⟨fp,fc,hfv⟩:=hb.fixed.slice;simp only at hfv;subst hfv;have hbb:=(ya.1 hb.blk).1;have hA:=yd w (.cells (hsVals zeroS).toArray 108);have hal:Below w.heap.size w (w.alloc (.cells (hsVals zeroS).toArray 108)):=(yf _ w).alloc (ye _) _;have hri:RtI t L w bb ⟨vg,vk,vc,.slice fp t.fixed.length fc,vb,qm,em,pv,pvs⟩ [] zeroS (w.alloc (.cells (hsVals zeroS).toArray 108)):=⟨hA,zeY _ _,RP.own_nil _ _,zdU t,hb.keep hal,hal⟩;have HSM:=yK hsm;clear hsm;have HPL:=yK hplen;clear hplen;clear hA hal;generalize hpo:RootPost t L w=Po;have HPO:=yK hpo;clear hpo;have hfl:t.fixed.length≤9223372036854775807:=by
  rcases hb.fixed with⟨_,h⟩|⟨_,_,_,h1,h2,_⟩
  ·rw[h];decide
  simp only[maxLen]at h2;omega
 have HB0:=yK hb;clear hb;go_enter func65,ntmps65;go_upto_region 1 with fail;change Code.wp _ _ _ _ (w.alloc (.cells (hsVals zeroS).toArray 108));revert hri;generalize w.alloc (.cells (hsVals zeroS).toArray 108)=w1;intro hri;have HRI:=yK hri;have hblk:=hri.bd.blk;simp only at hblk;have b3:w1.cell? ⟨bb,3,none⟩=some (.slice fp t.fixed.length fc):=by simp only[World.cell?,hblk];rfl
 clear hri hblk;go_wp2_with fail;clear b3;go_loopw [14] (λ z wr=>∃ (k:Nat) (s:List Pc) (S:HS),k≤t.fixed.length∧z=.int .i64 k∧Hid (foldR t k=some s∧RtI t L w bb ⟨vg,vk,vc,.slice fp t.fixed.length fc,vb,qm,em,pv,pvs⟩ s S wr)) (λ z _=>t.fixed.length-(intOf z).toNat)
 case atStart=>exact⟨0,[],zeroS,YC _,rfl,yK ⟨rfl,HRI.out⟩⟩
 case round =>
  obtain⟨k,s,S,hk,rfl,HR⟩:=hrel;by_cases hlt:k<t.fixed.length
  ·obtain⟨l,hl⟩:∃ l,t.fixed[k]?=some l:=⟨_,yb hlt⟩;obtain⟨xa,rfl,hat⟩:=HR.out.2.bd.fixed.at_ (by rintro e;rw[e]at hl;simp at hl);have hld:(Instr.loadAt 50 (.pointer (some (xa.add (k*5))))).run Tryz.prog wr=.ok (.agg (ldVals l).toArray) wr:=qj (P:=Tryz.prog) (R:=RL) underlying50 rfl sizeL hat hl;have HFS:=yK (ze8 hl);clear hl hat;have hszl:(Tryz.prog.info? 50).map (·.size)=some (ldVals l).toArray.size:=sizeL;have honel:(ldVals l).toArray.all (·.oneCell')=true:=(by simp[ldVals,Value.oneCell']);go_upto_region 4 with (first
    | (refine zl rfl 50 _ rfl rfl hld ?_)
    | (refine wpList_store_row rfl 50 _ _ rfl wr.heap.size rfl 50 _ (ldVals l).toArray rfl (yd wr _) hszl rfl honel ?_;rw[World.setRow_alloc_new]))
   have hLB:=yd wr (.cells (ldVals l).toArray 50);have hal:Below wr.heap.size wr (wr.alloc (.cells (ldVals l).toArray 50)):=(yf _ wr).alloc (ye _) _;have hr2:=HR.out.2.keep hal;clear hld hal;revert hLB hr2;generalize wr.alloc (.cells (ldVals l).toArray 50)=w2;generalize wr.heap.size=lb;intro hLB hr2;have HFA:=yK (zd9 w2 bb _ hr2.bd HPL.out ok.k8 HSM.out l);have HR2:=yK hr2;clear hr2;go_wp2_with (refine Yb rfl 50 _ rfl lb rfl 50 (ldVals l).toArray (0,0) _ hLB underlying50 rfl hszl ?_);refine HFA.out.mono ?_;rintro e w3 ⟨rfl,hb3⟩;have hr3:=HR2.out.keep hb3;rw[qeb];clear HFA hLB hb3;have hss:(Tryz.prog.info? 108).map (·.size)=some (hsVals S).toArray.size:=sizeS;have hones:(hsVals S).toArray.all (·.oneCell')=true:=(by simp[hsVals,Value.oneCell'])
   cases hft:findT t l with
   | none =>
    have HNO:Hid (rootT t=none):=yK (qcR (k:=k+1) (by rw[HFS.out,HR.out.1];unfold stepR;rw[hft]));simp only[Option.map_none,Option.getD_none,Option.isSome_none];have hszp:(Tryz.prog.info? 152).map (·.size)=some (hpVals zeroP).toArray.size:=sizeP;have honep:(hpVals zeroP).toArray.all (·.oneCell')=true:=(by simp[hpVals,Value.oneCell']);go_upto_region 5 with (first
     | (refine wpList_store_row rfl 152 _ _ rfl w3.heap.size rfl 152 _ (hpVals zeroP).toArray rfl (yd w3 _) hszp rfl honep ?_;rw[World.setRow_alloc_new]))
    have hr4:=hr3.keep ((yf _ w3).alloc (ye _) (.cells (hpVals zeroP).toArray 152));revert hr4;clear hr3;generalize w3.alloc (.cells (hpVals zeroP).toArray 152)=w4;intro hr4;have hbx:=hr4.box;have HB4:=yK hr4.below;clear hr4;go_wp2_with (first
     | (refine Yb rfl 108 _ rfl w.heap.size rfl 108 (hsVals S).toArray (0,0) _ hbx underlying108 rfl hss ?_)
     | (refine wpList_store_row rfl 108 _ _ rfl w.heap.size rfl 108 _ (hsVals S).toArray rfl hbx hss rfl hones ?_))
    refine Yc (zF rfl underlying108 rfl _ _ w.heap.size (hsVals S).toArray (0,0) (.bool false) (setRow_heap _ _ _ _ _ _ hbx) hss rfl rfl) rfl ?_;rw[← HPO.out];exact⟨S,false,rfl,λ h=>(by cases h),λ _=>HNO.out,zg HB4.out (ye _) _⟩
   | some p =>
    obtain⟨kk,pl,hpl,hpp,hpld⟩:=zb9 hft;have HST:=yK (show foldR t (k+1)=putT t s p by rw[HFS.out,HR.out.1];unfold stepR;rw[hft]);simp only[Option.map_some,Yw,Option.isSome_some];have hszp:(Tryz.prog.info? 152).map (·.size)=some (hpVals (hpT t.ground L p)).toArray.size:=sizeP;have honep:(hpVals (hpT t.ground L p)).toArray.all (·.oneCell')=true:=(by simp[hpVals,Value.oneCell']);go_upto_region 5 with (first
     | (refine wpList_store_row rfl 152 _ _ rfl w3.heap.size rfl 152 _ (hpVals (hpT t.ground L p)).toArray rfl (yd w3 _) hszp rfl honep ?_;rw[World.setRow_alloc_new]))
    have hPB:=yd w3 (.cells (hpVals (hpT t.ground L p)).toArray 152);have hr4:=hr3.keep ((yf _ w3).alloc (ye _) (.cells (hpVals (hpT t.ground L p)).toArray 152));revert hr4 hPB;clear hr3;generalize w3.alloc (.cells (hpVals (hpT t.ground L p)).toArray 152)=w4;generalize w3.heap.size=pb;intro hPB hr4;have HPT:=yK (qhc ok hr4.st hr4.good hpl hpp hr4.bd hr4.own);have hbx:=hr4.box;have HR4:=yK hr4;clear hr4;have HMM:=yK (List.mem_flatten.2 ⟨pl,yg hpl,hpp⟩);clear hpl hpp hpld hft;go_wp2_with (first
     | (refine Yb rfl 108 _ rfl w.heap.size rfl 108 (hsVals S).toArray (0,0) _ hbx underlying108 rfl hss ?_)
     | (refine Yb rfl 152 _ rfl pb rfl 152 (hpVals (hpT t.ground L p)).toArray (0,0) _ hPB underlying152 rfl hszp ?_))
    refine HPT.out.mono ?_;rintro e w5 ⟨S',b,rfl,h1,h2,hb5⟩;have hbx5:=(hb5.block _ (ya.1 HR4.out.box).1).trans HR4.out.box;have hB5:=HR4.out.below.trans (hb5.mono HR4.out.below.size);have hbd5:=HR4.out.bd.keep hb5;have hss':(Tryz.prog.info? 108).map (·.size)=some (hsVals S').toArray.size:=sizeS;have hones':(hsVals S').toArray.all (·.oneCell')=true:=(by simp[hsVals,Value.oneCell']);have hsz0:(hsVals S).toArray.size=(hsVals S').toArray.size:=rfl;have hset:(w5.setRow w.heap.size (hsVals S').toArray).heap[w.heap.size]?=some (.cells (hsVals S').toArray 108 (0,0)):=setRow_heap _ _ _ _ _ _ hbx5;have hBs:=zg hB5 (ye _) (hsVals S').toArray
    cases b with
    | false =>
     have HNO:Hid (rootT t=none):=yK (qcR (k:=k+1) (by rw[HST.out];exact h2 rfl));have HBS:=yK hBs;clear hBs hB5 hbd5 h1 h2 hb5;go_wp2_with (first
      | (refine wpList_store_row rfl 108 _ _ rfl w.heap.size rfl 108 _ (hsVals S').toArray rfl hbx5 hss' rfl hones' ?_)
      | (refine Yb rfl 108 _ rfl w.heap.size rfl 108 (hsVals S').toArray (0,0) _ hset underlying108 rfl hss' ?_)
      | (refine wpList_store_row rfl 108 _ _ rfl w.heap.size rfl 108 _ (hsVals S').toArray rfl hset hss' rfl hones' ?_))
     refine Yc (zF rfl underlying108 rfl _ _ w.heap.size (hsVals S').toArray (0,0) (.bool false) (setRow_heap _ _ _ _ _ _ hset) hss' rfl rfl) rfl ?_;rw[← HPO.out];exact⟨S',false,rfl,λ h=>(by cases h),λ _=>HNO.out,zg HBS.out (ye _) _⟩
    | true =>
     obtain⟨q1,q2,q3⟩:=h1 rfl;have hmv:∀ (j:Nat) (cs:Array Value) (T:TypeId),T≠108→w5.heap[j]?=some (.cells cs T (0,0))→(w5.setRow w.heap.size (hsVals S').toArray).heap[j]?=w5.heap[j]?:=λ j cs T hT hc=>setRow_other _ _ _ _ λ e=>by
      subst e;rw[hbx5]at hc;simp only[yo,Yh]at hc;exact hT hc.2.1.symm
     have HNX:Hid (foldR t (k+1)=some (s++[p])∧RtI t L w bb ⟨vg,vk,vc,.slice (some xa) t.fixed.length fc,vb,qm,em,pv,pvs⟩ (s++[p]) S' (w5.setRow w.heap.size (hsVals S').toArray)):=yK (by
      refine⟨by rw[HST.out];exact q1,hset,q2,?_,zbX HR4.out.good HMM.out q1,HB0.out.keep hBs,hBs⟩;refine zi (zG q3 HR4.out.below.size) λ j hj=>?_;obtain⟨_,_,cs,hc⟩:=zf q3 hj;exact hmv j cs _ (by decide) hc)
     clear hmv hset hBs hB5 hbd5 h1 h2 hb5 q1 q2 q3;go_wp2_with (refine wpList_store_row rfl 108 _ _ rfl w.heap.size rfl 108 _ (hsVals S').toArray rfl hbx5 hss' rfl hones' ?_)
     go_roundw
     case rel=>exact⟨k+1,s++[p],S',by omega,by go_num,HNX⟩
     case measure=>simp only[intOf];omega
  obtain rfl:k=t.fixed.length:=by omega
  have hss:(Tryz.prog.info? 108).map (·.size)=some (hsVals S).toArray.size:=sizeS;have hones:(hsVals S).toArray.all (·.oneCell')=true:=by simp[hsVals,Value.oneCell']
  have hbx:=HR.out.2.box;go_wp2_with (first
   | (refine Yb rfl 108 _ rfl w.heap.size rfl 108 (hsVals S).toArray (0,0) _ hbx underlying108 rfl hss ?_)
   | (refine wpList_store_row rfl 108 _ _ rfl w.heap.size rfl 108 _ (hsVals S).toArray rfl hbx hss rfl hones ?_))
  refine Yc (zF rfl underlying108 rfl _ _ w.heap.size (hsVals S).toArray (0,0) (.bool true) (setRow_heap _ _ _ _ _ _ hbx) hss rfl rfl) rfl ?_;rw[← HPO.out];refine⟨S,true,rfl,λ _=>⟨s,by rw[← qdH];exact HR.out.1,HR.out.2.st,zi HR.out.2.own λ j hj=>?_,HR.out.2.good⟩,λ h=>(by cases h),zg HR.out.2.below (ye _) _⟩;obtain⟨_,_,cs,hc⟩:=zf HR.out.2.own hj;refine setRow_other _ _ _ _ λ e=>?_;subst e;rw[hbx]at hc;simp only[yo,Yh]at hc;exact absurd hc.2.1 (by decide)
def IterM (P:Program) (gf:Nat) (mk:Value→Array Value) (n:Nat) (N:World→Prop) (Xp:Nat→Array Value→World→Prop):Prop :=
 ∀ (l:Nat) (J:Nat→Nat→World→Prop) (Jx:World→Prop) (W:World),
  (∀ b k W W',J b k W→Below W.heap.size W W'→J b k W')→(∀ W W',Jx W→Below W.heap.size W W'→Jx W') →
  (∀ b k W',J b k W'→N W') →
  (∀ b k args W1 o,k<n→Xp k args W1→J b k W1→W.heap.size≤b→W1.heap[b]?=some o→o.isCells=true →
   YieldAt (FW none) 0 P l args W1 λ e W'=>(e=.returned (.bool true)∧J b (k+1) W'∧W'.heap[b]?=some o)∨(e=.returned (.bool false)∧Jx W')) →
  (∀ b W',W.heap.size≤b→Below W.heap.size W W'→J b 0 W')→CallsIn (FW none) 0 P gf (mk (.func (.yield l) #[] #[])) W λ e W'=>(∃ v,e=.returned v)∧((∃ b,J b n W')∨Jx W')
theorem zeD {P:Program} {ro:Option Nat} {g:Operand} {ps:Array Tmp} {assign body:Code} {Q:Exit→Act→World→Prop} {a:Act} {w:World} {gf:Nat} {mk:Value→Array Value} {n:Nat} {N:World→Prop} {Xp:Nat→Array Value→World→Prop}
  (hro:∀ l0,ro=some l0→∃ r0,w.heap[l0]?=some (.loop r0))
  (hg:∀ (l:Nat) (W:World),∃ d,(resolve a.eval (rangeCall g l) 0).run P W=.ok d W∧(invoke d.target d.args).run P W=.ok (.enter gf (mk (.func (.yield l) #[] #[]))) W)
  (hit:IterM P gf mk n N Xp) (hps:∀ k x W,Xp k x W→x.size=ps.size)
  (I:Nat→Nat→World→Prop) (Ix:Code→World→Prop) (hI:∀ b k,Stab w.heap.size (I b k)) (hIx:∀ c,Stab w.heap.size (Ix c)) (h0:∀ b W',w.heap.size≤b→Ext w.heap.size w W'→I b 0 W')
  (hN:∀ b k W,I b k W→N W)
  (hround:∀ (b l k:Nat) (x:Array Value) (W:World) (o:Obj),k<n→Xp k x W→I b k W→w.heap.size≤l→l<b→(∃ r,W.heap[l]?=some (.loop r))→W.heap[b]?=some o→o.isCells=true →
   assign.wpIn (FW (some l)) 0 P (Exit.then (λ a' W'=>∃ X:World→Prop,Stab w.heap.size X∧KeepsFrom w.heap.size W W'∧X W'∧W'.heap[b]?=some o ∧
     ∀ W2,X W2→(∃ r,W2.heap[l]?=some (.loop r))→W2.heap[b]?=some o→body.wpIn (FW (some l)) 0 P (rPostG w.heap.size I Ix b k o W2) a' W2) (λ _ _ _=>False))
    { tmps:=(ps.zip x).foldl (λ t (p,v)=>t.setIfInBounds p v) a.tmps,defers:=[] } W)
  (hdone:∀ b ds W,RMark w.heap.size ro ds W→I b n W→Q .normal { a with defers:=ds++a.defers } W)
  (hstop:∀ ds c W,RMark w.heap.size ro ds W→Ix c W→c.wpIn (FW ro) 0 P Q { a with defers:=ds++a.defers } W) :
  (Code.rangeFunc g ps assign body).wpIn (FW ro) 0 P Q a w:=by
 refine wpIn_rangeFunc ?_;intro fn hfn;obtain⟨D,l,ds,W1,rec,hlen,hDl,henter,hL1,hE1,hM1,hrec⟩:∃ (D l:Nat) (ds:List Deferred) (W1:World) (rec:LoopState→Option Code→Loop),
   (w.heap.size≤l)∧(D≠l)∧(Instr.enterLoop fn a.tmps ps assign body (FW ro).round).run P w=.ok (l,ds) W1∧W1.heap[l]?=some (.loop (rec .ready none))∧Ext w.heap.size w W1 ∧
   (∀ W,(ro=none→W.heap[D]?=some (.deferred (some [])))→RMark w.heap.size ro ds W) ∧
   ((ro=none→w.heap.size≤D∧W1.heap[D]?=some (.deferred (some [])))∧∀ st pe,(rec st pe).state=st∧(rec st pe).pending=pe∧(rec st pe).fn=fn∧(rec st pe).tmps=a.tmps∧(rec st pe).params=ps∧(rec st pe).assign=assign∧(rec st pe).body=body ∧
    ∀ st' pe',{ rec st pe with state:=st',pending:=pe' }=rec st' pe'):=by
  cases ro with
  | none =>
   refine⟨w.heap.size,w.heap.size+1,[{ target:=.collected w.heap.size,args:=#[] }],_,λ st pe=>{ state:=st,pending:=pe,fn,tmps:=a.tmps,params:=ps,assign,body,defers:=w.heap.size },by omega,by omega,run_enterLoop_outer _ _ _ _ _,?_,?_,?_,?_,?_⟩
   ·have:=yd (w.alloc (.deferred (some []))) (.loop { state:=.ready,pending:=none,fn,tmps:=a.tmps,params:=ps,assign,body,defers:=w.heap.size });rwa [yp]at this
   ·exact Ext.of_below (((yf _ w).alloc (ye _) _).alloc (by simp) _)
   ·intro W h;exact⟨w.heap.size,ye _,rfl,h rfl⟩
   ·intro _;exact⟨ye _,(Below.heap_alloc _ _ _ (by simp)).trans (yd w _)⟩
   intro st pe;exact⟨rfl,rfl,rfl,rfl,rfl,rfl,rfl,λ _ _=>rfl⟩
  | some l0 =>
   obtain⟨r0,hr0⟩:=hro l0 rfl;refine⟨w.heap.size+1,w.heap.size,[],_,λ st pe=>{ state:=st,pending:=pe,fn,tmps:=a.tmps,params:=ps,assign,body,defers:=r0.defers },ye _,by omega,run_enterLoop_inner hr0 _ _ _ _ _,?_,?_,?_,?_,?_⟩
   ·exact yd w _
   ·exact Ext.of_below ((yf _ w).alloc (ye _) _)
   ·intro W _;exact rfl
   ·intro h;cases h
   intro st pe;exact⟨rfl,rfl,rfl,rfl,rfl,rfl,rfl,λ _ _=>rfl⟩
 obtain⟨hK1,hrec⟩:=hrec;obtain⟨d,hres,hinv⟩:=hg l W1;refine⟨l,ds,W1,d,W1,gf,_,W1,henter,hres,λ _ _=>trivial,hinv,λ h=>by simp at h,?_⟩;have hcall:=hit l
  (λ b k W=>I b k W∧W.heap[l]?=some (.loop (rec .ready none))∧(ro=none→W.heap[D]?=some (.deferred (some []))))
  (λ W=>∃ c,Ix c W∧W.heap[l]?=some (.loop (rec .done (some c)))∧(ro=none→W.heap[D]?=some (.deferred (some []))))
  W1
  (λ b k W W' ⟨h1,h2,h3⟩ hb=>⟨hI b k W W' h1 (Ext.of_below hb),(hb.block l (ya.1 h2).1).trans h2,λ e=>(hb.block D (ya.1 (h3 e)).1).trans (h3 e)⟩)
  (λ W W' ⟨c,h1,h2,h3⟩ hb=>⟨c,hIx c W W' h1 (Ext.of_below hb),(hb.block l (ya.1 h2).1).trans h2,λ e=>(hb.block D (ya.1 (h3 e)).1).trans (h3 e)⟩)
  (λ b k W' ⟨h1,_⟩=>hN b k W' h1) ?_ (λ b W' hb hB=>⟨h0 b W' (yJ hE1.size hb) (hE1.trans (Ext.of_below hB)),(hB.block l (ya.1 hL1).1).trans hL1,λ e=>(hB.block D (ya.1 (hK1 e).2).1).trans (hK1 e).2⟩)
 ·refine CallsIn.mono (F:=FW ro) (R:=_) hcall ?_;rintro e W2 ⟨⟨v,rfl⟩,(⟨b,hi,hl,hk⟩|⟨c,hi,hl,hk⟩)⟩
  ·have hend:=run_endLoop (P:=P) hl (by rw[(hrec _ _).1];simp);rw[(hrec _ _).2.1]at hend;refine⟨none,_,hend,hdone b ds _ (hM1 _ λ e=>?_) (hI _ _ _ _ hi (Ext.putObj hl hlen rfl))⟩;rw[yR hDl];exact hk e
  have hend:=run_endLoop (P:=P) hl (by rw[(hrec _ _).1];simp);rw[(hrec _ _).2.1]at hend;refine⟨some c,_,hend,hstop ds c _ (hM1 _ λ e=>?_) (hIx _ _ _ hi (Ext.putObj hl hlen rfl))⟩;rw[yR hDl];exact hk e
 ·-- one round
  rintro b k x W o hkn hx ⟨hi,hl,hk⟩ hbW hob hoc;have hlb:l<b:=yO (ya.1 hL1).1 hbW;have hne:b≠l:=by omega
  have hy:=run_yield (P:=P) (args:=x) hl (by rw[(hrec _ _).2.2.2.2.1];exact hps k x W hx);rw[(hrec _ _).2.2.1,(hrec _ _).2.2.2.1,(hrec _ _).2.2.2.2.1,(hrec _ _).2.2.2.2.2.1,(hrec _ _).2.2.2.2.2.2.1]at hy;refine⟨fn,_,assign,body,hy,roundIn_of_wpIn (F:=FW none) hfn ?_⟩;have hA:=hround b l k x W o hkn hx hi hlen hlb ⟨_,hl⟩ hob hoc;refine wpIn_mono hA ?_;intro e a' Wa hp
  cases e with
  | normal =>
   obtain⟨X,hX,hkeep,hXa,hoa,hbody⟩:=hp;have hla:=hkeep.same l _ hlen hl rfl;have hka:ro=none→Wa.heap[D]?=some (.deferred (some [])):=λ e=>hkeep.same D _ (hK1 e).1 (hk e) rfl;refine⟨_,run_beginRound hla (by rw[(hrec _ _).1]),?_⟩;have e1:({ rec .ready none with state:=.busy }:Loop)=rec .busy none:=by
    have h8:=(hrec .ready none).2.2.2.2.2.2.2 .busy none;have h2:=(hrec .ready none).2.1;simp only[h2];exact h8
   rw[e1];have hlt:l<Wa.heap.size:=(ya.1 hla).1;have hl2:(Wa.putObj l (.loop (rec .busy none))).heap[l]?=some (.loop (rec .busy none)):=World.putObj_heap_same hlt;have hk2:ro=none→(Wa.putObj l (.loop (rec .busy none))).heap[D]?=some (.deferred (some [])):=λ e=>(yR hDl).trans (hka e);refine wpIn_mono (hbody _ (hX _ _ hXa (Ext.putObj hla hlen rfl)) ⟨_,hl2⟩ ((yR hne).trans hoa)) ?_;have fin:∀ (jump:Option Code) (W3:World),KeepsFrom w.heap.size (Wa.putObj l (.loop (rec .busy none))) W3 →
     W3.heap[l]?=some (.loop (rec .busy none)) ∧
     (Instr.endRound l jump).run P W3=.ok (.bool jump.isNone) (W3.putObj l (.loop (rec (if jump.isNone then .ready else .done) jump))) ∧
     (W3.putObj l (.loop (rec (if jump.isNone then .ready else .done) jump))).heap[l]?=some (.loop (rec (if jump.isNone then .ready else .done) jump)) ∧
     (ro=none→(W3.putObj l (.loop (rec (if jump.isNone then .ready else .done) jump))).heap[D]?=some (.deferred (some []))):=λ jump W3 hk3=>by
    have hl3:=hk3.same _ _ hlen hl2 rfl;have h4:=run_endRound (P:=P) jump hl3;rw[(hrec .busy none).2.2.2.2.2.2.2]at h4;exact⟨hl3,h4,World.putObj_heap_same (ya.1 hl3).1,λ e=>(yR hDl).trans (hk3.same _ _ (hK1 e).1 (hk2 e) rfl)⟩
   intro e a3 W3 hp
   cases e with
   | normal =>
    obtain⟨hk3,hi3,ho3⟩:=hp;obtain⟨hl3,hr,hl4,hk4⟩:=fin none W3 hk3;exact⟨_,_,hr,.inl ⟨rfl,⟨hI _ _ _ _ hi3 (Ext.putObj hl3 hlen rfl),hl4,hk4⟩,(yR hne).trans ho3⟩⟩
   | ret =>
    obtain⟨hk3,hi3⟩:=hp;obtain⟨hl3,hr,hl4,hk4⟩:=fin (some .ret) W3 hk3;exact⟨_,_,hr,.inr ⟨rfl,.ret,hIx _ _ _ hi3 (Ext.putObj hl3 hlen rfl),hl4,hk4⟩⟩
   | exit id =>
    obtain⟨hk3,hi3⟩:=hp;obtain⟨hl3,hr,hl4,hk4⟩:=fin (some (.exit id)) W3 hk3;exact⟨_,_,hr,.inr ⟨rfl,.exit id,hIx _ _ _ hi3 (Ext.putObj hl3 hlen rfl),hl4,hk4⟩⟩
   | goto t =>
    obtain⟨hk3,hi3⟩:=hp;obtain⟨hl3,hr,hl4,hk4⟩:=fin (some (.goto t)) W3 hk3;exact⟨_,_,hr,.inr ⟨rfl,.goto t,hIx _ _ _ hi3 (Ext.putObj hl3 hlen rfl),hl4,hk4⟩⟩
   | panic ch=>exact hp.elim
   | outgrown=>exact hp.elim
  | exit id=>exact hp.elim
  | goto t=>exact hp.elim
  | ret=>exact hp.elim
  | panic ch=>exact hp.elim
  | outgrown=>exact hp.elim
def smallQ (q:Q):Prop:=(0≤q.x∧q.x<100)∧(0≤q.y∧q.y<100)∧0≤q.s∧q.s<100
theorem qg2 {q:Q} (h:inQ q):smallQ q:=by unfold inQ at h;unfold smallQ;omega
theorem encQw:KeyEnc Tryz.prog 56 Q.val smallQ where
 law:=lawQ
 key q ok:=by
  obtain⟨d,hd⟩:=zbv;obtain⟨⟨h1,h2⟩,⟨h3,h4⟩,h5,h6⟩:=ok;refine qaI (by kernel_rfl) (by kernel_rfl) (by rw[cellsQ];rfl) ?_;rw[hd];refine zaF (d+3) underlying56 (by rw[cellsQ];rfl) (by kernel_rfl) (λ f hf=>?_);simp only[Ye,List.not_mem_nil,or_false]at hf;rcases hf with rfl|rfl|rfl
  ·rw[cellsI];exact qI (d+2) underlying3 (qar h1 h2)
  ·rw[cellsI];exact qI (d+2) underlying3 (qar h3 h4)
  rw[cellsI];exact qI (d+2) underlying3 (qar h5 h6)
 inj x y _ _ h:=by
  simp only[Q.val,Value.agg.injEq,Array.mk.injEq,List.cons.injEq,Value.int.injEq,true_and,and_true]at h;exact Q.ext' h.1 h.2.1 h.2.2
def bdQ (q:Q):Prop:=(-15≤q.x∧q.x≤15)∧(-15≤q.y∧q.y≤15)∧0≤q.s∧q.s≤3
theorem zbQ {q:Q} (h:inQ q):bdQ q:=by unfold inQ at h;unfold bdQ;omega
theorem qf9 {q:Q} (h:bdQ q):bdQ (trM q):=by unfold bdQ at *;unfold trM;simp only;omega
theorem qhE {q:Q} (h:bdQ q):bdQ (trT q):=by unfold bdQ at *;unfold trT;simp only;omega
theorem zcV {q:Q} (h:bdQ q):∀ n,bdQ (trN n q)
 | 0=>h
 | n+1=>qhE (zcV h n)
theorem qhR {q:Q} (h:bdQ q) (m:Bool) (n:Nat):bdQ (tr m n q):=by
 unfold tr;split
 ·exact zcV (qf9 h) n
 exact zcV h n
theorem zbe (f:Q→Int):∀ (l:List Q) (m:Int),(l.foldl (λ m q=>min m (f q)) m≤m∧∀ q∈l,l.foldl (λ m q=>min m (f q)) m≤f q)∧(l.foldl (λ m q=>min m (f q)) m=m∨∃ q∈l,l.foldl (λ m q=>min m (f q)) m=f q)
 | [],m=>⟨⟨Int.le_refl _,λ q hq=>by cases hq⟩,.inl rfl⟩
 | a :: l,m=>by
  obtain⟨⟨h1,h2⟩,h3⟩:=zbe f l (min m (f a));simp only[Yv];refine⟨⟨by omega,λ q hq=>?_⟩,?_⟩
  ·rcases Ye.1 hq with rfl|hq
   ·omega
   exact h2 q hq
  rcases h3 with h3|⟨q,hq,h3⟩
  ·by_cases hm:m≤f a
   ·left;omega
   right;exact⟨a,by simp,by omega⟩
  right;exact⟨q,by simp[hq],h3⟩
def zM (f:Q→Int) (L:List Q) (i:Nat):Int:=(L.take i).foldl (λ m q=>min m (f q)) 16
theorem qbf {f:Q→Int} {L:List Q} {i:Nat} {q:Q} (h:L[i]?=some q):zM f L (i+1)=min (zM f L i) (f q):=by
 unfold zM;rw[qo h,List.foldl_append];rfl
theorem zaZ {f:Q→Int} {L:List Q} (h:∀ q∈L,-15≤f q) (i:Nat):-15≤zM f L i∧zM f L i≤16:=by
 obtain⟨⟨h1,_⟩,h3⟩:=zbe f (L.take i) 16;unfold zM;refine⟨?_,h1⟩;rcases h3 with h3|⟨q,hq,h3⟩
 ·omega
 have:=h q (Yy hq);omega
theorem qbz {f:Q→Int} {L:List Q} (h0:L≠[]) (h:∀ q∈L,f q≤15):zM f L L.length=minL f L:=by
 obtain⟨⟨h1,h2⟩,h3⟩:=zbe f L 16;unfold zM;rw[Yd];refine (qaX ?_ h2).symm;rcases h3 with h3|⟨q,hq,h3⟩
 ·cases L with
  | nil=>exact absurd rfl h0
  | cons a l =>
   have:=h a (by simp);have:=h2 a (by simp);omega
 exact⟨q,hq,h3.symm⟩
def waysN (g:List Q) (i:Nat):List (List Nat):=(List.range i).filterMap (wayT g)
theorem qbL {g:List Q} {i:Nat} {w:List Nat} (h:wayT g i=some w):waysN g (i+1)=waysN g i++[w]:=by
 unfold waysN;rw[Yl,List.filterMap_append];simp[h]
theorem qc9 {g:List Q} {i:Nat} (h:wayT g i=none):waysN g (i+1)=waysN g i:=by
 unfold waysN;rw[Yl,List.filterMap_append];simp[h]
theorem zgT {g:List Q} {i j:Nat} (h:i≤j):∃ l,waysN g j=waysN g i++l:=by
 induction j with
 | zero=>obtain rfl:i=0:=by omega
         exact⟨[],by simp⟩
 | succ j ih =>
  by_cases e:i=j+1
  ·subst e;exact⟨[],by simp⟩
  obtain⟨l,hl⟩:=ih (by omega)
  cases hw:wayT g j with
  | none=>exact⟨l,by rw[qc9 hw,hl]⟩
  | some w=>exact⟨l++[w],by rw[qbL hw,hl,List.append_assoc]⟩
theorem qdq {g:List Q} {i:Nat} {w:List Nat} (hi:i<8) (h:wayT g i=some w):(waysT g)[(waysN g i).length]?=some w:=by
 obtain⟨l,hl⟩:=zgT (g:=g) (show i+1≤8 by omega);have:waysT g=waysN g 8:=rfl;rw[this,hl,qbL h];simp
def imgT (g:List Q) (i:Nat):List Q:=g.map (tr (decide (4≤i)) (i % 4))
def atT (g:List Q) (dx dy:Int) (q:Q):Option Nat:=g.findIdx? λ r=>decide (r=sh dx dy q)
theorem qeQ (g:List Q) (i:Nat):wayT g i=(imgT g i).mapM (atT g (leftL g-leftL (imgT g i)) (lowL g-lowL (imgT g i))):=rfl
theorem zdx {α β:Type} (f:α→Option β) (l:List α) (x:α):(l++[x]).mapM f=(l.mapM f).bind λ a=>(f x).map λ b=>a++[b]:=by
 rw[List.mapM_append]
 cases l.mapM f <;> cases h:f x <;> simp[h]
theorem zdf {α β:Type} {f:α→Option β} {l:List α} {i:Nat} (h:(l.take i).mapM f=none):l.mapM f=none:=by
 rw[← List.take_append_drop i l,List.mapM_append,h];rfl
theorem qb5 {α β:Type} {f:α→Option β} {l:List α} {T:List β} (h:l.mapM f=some T):T.length=l.length:=by
 induction l generalizing T with
 | nil=>simp at h;subst h;rfl
 | cons a l ih =>
  rw[List.mapM_cons]at h
  cases hf:f a with
  | none=>rw[hf]at h;cases h
  | some b =>
   cases hl:l.mapM f with
   | none=>rw[hf,hl]at h;cases h
   | some T' =>
    rw[hf,hl]at h
    cases h
    simp[ih hl]
theorem zei {g:List Q} {dx dy:Int} {q:Q} {n:Nat} (h:atT g dx dy q=some n):g[n]?=some (sh dx dy q)∧n<g.length:=by
 obtain⟨hn,h1,_⟩:=List.findIdx?_eq_some_iff_getElem.1 h;simp only[yS]at h1;exact⟨by rw[yb hn,h1],hn⟩
theorem zgP {g:List Q} {dx dy:Int} {q:Q} (h:atT g dx dy q=none):sh dx dy q∉g:=by
 unfold atT at h;rw[List.findIdx?_eq_none_iff]at h;intro hq;have:=h _ hq;simp at this
theorem zcl:(Tryz.prog.info? 3).map (λ i=>(i.zero,i.size,i.bytes))=some (some (.int .i64 0),1,8):=by kernel_rfl
theorem qgo (W:World) (v:Value) (T:TypeId):∀ (j:Nat) (u:Value),([v]:List Value)[j]?=some u→(W.alloc (.cells #[v] T)).cell? ((⟨W.heap.size,0,none⟩:Addr).add j)=some u :=
 zI (yd W (.cells ([v]:List Value).toArray T))
theorem zdo {W:World} {tb:Nat} {a b c:Value} {T:TypeId} (h:W.heap[tb]?=some (.cells #[a,b,c] T)) (u:Value):(W.setCell ⟨tb,0,none⟩ u).heap[tb]?=some (.cells #[u,b,c] T):=by
 rw[yI W tb 0 _ _ u h];rfl
theorem qdp {W:World} {tb:Nat} {a b c:Value} {T:TypeId} (h:W.heap[tb]?=some (.cells #[a,b,c] T)) (u:Value):(W.setCell ⟨tb,1,none⟩ u).heap[tb]?=some (.cells #[a,u,c] T):=by
 rw[yI W tb 1 _ _ u h];rfl
theorem zgj {W:World} {tb:Nat} {a b c:Value} {T:TypeId} (h:W.heap[tb]?=some (.cells #[a,b,c] T)) (u:Value):(W.setCell ⟨tb,2,none⟩ u).heap[tb]?=some (.cells #[a,b,u] T):=by
 rw[yI W tb 2 _ _ u h];rfl
structure SyI (B:Nat) (w W:World) (u:Value) (L:List Q):Prop where
 own:OwnQ W B u L
 below:Below B w W
 base:B≤W.heap.size
theorem SyI.keep {B:Nat} {w W W':World} {u:Value} {L:List Q} (h:SyI B w W u L) (e:Below W.heap.size W W'):SyI B w W' u L :=
 ⟨h.own.below e,h.below.trans (e.mono h.base),yJ h.base e.size⟩
theorem SyI.cell {B:Nat} {w W:World} {u:Value} {L:List Q} (h:SyI B w W u L) {b:Nat} (hb:B≤b) (hu:u.ownBlock≠some b) (j:Nat) (z:Value):SyI B w (W.setCell ⟨b,j,none⟩ z) u L:=by
 refine⟨World.ownsRow.kept (row:=some b) h.own ⟨rfl,rfl,rfl,by simp,λ k _ hk=>yq W ⟨b,j,none⟩ k z (λ e=>hk (by rw[e]))⟩ ?_,h.below.setCell (by simp;omega) _,by simpa using h.base⟩;by_cases hv:u.ownBlock=none
 ·exact .inl hv
 exact .inr hu
theorem SyI.grow {B:Nat} {w W W':World} {u u':Value} {L L':List Q} (h:SyI B w W u L) {g:Option Nat} (hg:W.grownBy W' g) (hb:∀ k,g=some k→B≤k) (ho:OwnQ W' B u' L'):SyI B w W' u' L' :=
 ⟨ho,h.below.grown hg h.base hb,yJ h.base hg.size⟩
def WyP (g:List Q) (k:Nat) (x:Array Value) (W:World):Prop:=∃ (v:Value) (way:List Nat),(waysT g)[k]?=some way∧x=#[v]∧RI.Own W 0 v (way.map λ n:Nat=>(n:Int))
theorem qcY {t:Tk} {L:List E} (hgr:checkN t.ground=0) (h64:t.ground.length≤64) (bb:Nat) (bv:BV) (ps:List (List HP)) (bel:W3) :
  IterM Tryz.prog 39 (λ y=>#[.pointer (some ⟨bb,0,none⟩),y]) (waysT t.ground).length (λ W=>BdAt W bb bv t L ps bel) (WyP t.ground):=by
 intro l J Jx W hJ hJx hN hY h0;obtain⟨vg,vk,vc,vf,vb,qm,em,pv,pvs⟩:=bv;have HGI:=yK (ql hgr).1.1;have HGS:=yK (ql hgr).1.2;have HGE:=yK (ql hgr).2.1;have HJ:=yK hJ;clear hJ;have HJx:=yK hJx;clear hJx;have HN:=yK hN;clear hN;have HY:=yK hY;clear hY;have H0:=yK h0;clear h0;have hbd:=HN.out _ _ _ (H0.out W.heap.size W (ye _) (yf _ W));obtain⟨gp,gc,hvg⟩:=hbd.ground.slice;simp only at hvg;subst hvg;obtain⟨ga,rfl,hgq⟩:∃ ga,gp=some ga∧QsAt W ga t.ground:=by
  rcases hbd.ground with⟨_,h⟩|⟨a,c,h1,_,_,h4⟩
  ·exact absurd h HGE.out
  simp only[yC]at h1;exact⟨a,h1.1,h4⟩
 have HGQ:=yK hgq;clear hgq;have hA1:=yd W (.cells #[.int .i64 16,.int .i64 16,.int .i64 0] 56);have hB1:Below W.heap.size W (W.alloc (.cells #[.int .i64 16,.int .i64 16,.int .i64 0] 56)):=(yf _ W).alloc (ye _) _;have hblk:=hbd.blk;simp only at hblk;have b0:(W.alloc (.cells #[.int .i64 16,.int .i64 16,.int .i64 0] 56)).cell? ⟨bb,0,none⟩=some (.slice (some ga) t.ground.length gc):=by
  simp only[World.cell?,heapO _ hblk];rfl
 clear hbd hblk;refine callsIn_of_wp func39 rfl trivial ?_ rfl;simp only[ntmps39,List.size_toArray,yA,yN,Nat.reduceAdd,Nat.reduceSub,Array.replicate_succ,Array.replicate_zero,List.push_toArray,List.append_toArray,Yk,Yg];gi_wp2_with fail;have H1:=yK (And.intro hB1 hA1);clear hB1 hA1 b0;revert H1;generalize W.alloc (.cells #[.int .i64 16,.int .i64 16,.int .i64 0] 56)=w1;intro H1
 gi_loopw [25] (λ z wr=>∃ i:Nat,i≤t.ground.length∧z=.int .i64 i∧Hid (Below W.heap.size W wr∧wr.heap[W.heap.size]?=some (.cells #[.int .i64 (zM (·.x) t.ground i),.int .i64 (zM (·.y) t.ground i),.int .i64 0] 56))) (λ z _=>t.ground.length-(intOf z).toNat)
 case atStart=>exact⟨0,by omega,rfl,H1⟩
 case round =>
  clear H1;obtain⟨i,hi,rfl,HR⟩:=hrel;by_cases hlt:i<t.ground.length
  ·obtain⟨q,hq⟩:∃ q,t.ground[i]?=some q:=⟨_,yb hlt⟩;have hbd:=zbQ (HGI.out q (yg hq));have hs2:=HGQ.out.below HR.out.1;have c0:=hs2.at0 i q hq;have c1:=hs2.at1 i q hq;have c2:=hs2.at2 i q hq;have HSX:Hid (zM (·.x) t.ground (i+1)=min (zM (·.x) t.ground i) q.x):=yK (qbf hq);have HSY:Hid (zM (·.y) t.ground (i+1)=min (zM (·.y) t.ground i) q.y):=yK (qbf hq);obtain⟨hbx0,hbx1⟩:=zaZ (f:=(·.x)) (λ q hq=>(zbQ (HGI.out q hq)).1.1) i;obtain⟨hby0,hby1⟩:=zaZ (f:=(·.y)) (λ q hq=>(zbQ (HGI.out q hq)).2.1.1) i;obtain⟨hB,hO⟩:=HR.out;clear hs2 hq HR;obtain⟨qx,qy,qs⟩:=q;simp only at c0 c1 c2 HSX HSY;unfold bdQ at hbd;simp only at hbd;obtain⟨⟨cx0,cx1⟩,⟨cy0,cy1⟩,cs0,cs1⟩:=hbd;revert hbx0 hbx1 hby0 hby1 HSX HSY hO;generalize zM (·.x) t.ground i=X;generalize zM (·.y) t.ground i=Y;intro hbx0 hbx1 hby0 hby1 hO HSX HSY;have e1:(if qx<X then qx else X)=min X qx:=by split <;> omega
   have e2:(if qy<Y then qy else Y)=min Y qy:=by split <;> omega
   have hB3:=hB.alloc hB.size (.cells #[.int .i64 qx,.int .i64 qy,.int .i64 qs] 56);have hO3:=heapO (.cells #[.int .i64 qx,.int .i64 qy,.int .i64 qs] 56) hO;have hQ3:=yd wr (.cells #[.int .i64 qx,.int .i64 qy,.int .i64 qs] 56);have hne:wr.heap.size≠W.heap.size:=(by have:=(ya.1 hO).1;omega);clear hB hO
   gi_upto_region 4 with fail
   clear c0 c1 c2;revert hB3 hO3 hQ3;generalize wr.alloc (.cells #[.int .i64 qx,.int .i64 qy,.int .i64 qs] 56)=w3;intro hB3 hO3 hQ3;have o0:w3.cell? ⟨W.heap.size,0,none⟩=some (.int .i64 X):=(by simp[World.cell?,hO3]);have o1:w3.cell? ⟨W.heap.size,1,none⟩=some (.int .i64 Y):=(by simp[World.cell?,hO3]);have q0:w3.cell? ⟨wr.heap.size,0,none⟩=some (.int .i64 qx):=(by simp[World.cell?,hQ3]);have q1:w3.cell? ⟨wr.heap.size,1,none⟩=some (.int .i64 qy):=(by simp[World.cell?,hQ3]);have hO4:(w3.drewN 1).heap[W.heap.size]?=_:=hO3;have hO5:=zdo hO4 (.int .i64 (min X qx));have hO6:=qdp hO5 (.int .i64 (min Y qy));have HRUN1:=yK (run_store_int (P:=Tryz.prog) (T:=3) (k:=.i64) (n:=min X qx) sizeOf3 (w:=w3.drewN 1) (q:=⟨W.heap.size,0,none⟩) o0 (frozen_of_row _ _ 0 _ _ hO4));have hB6:Below W.heap.size W (((w3.drewN 1).setCell ⟨W.heap.size,0,none⟩ (.int .i64 (min X qx))).setCell ⟨W.heap.size,1,none⟩ (.int .i64 (min Y qy))):=((hB3.trans (below_drewN W.heap.size w3 1)).setCell (by simp) _).setCell (by simp) _;have q1':((w3.drewN 1).setCell ⟨W.heap.size,0,none⟩ (.int .i64 (min X qx))).cell? ⟨wr.heap.size,1,none⟩=some (.int .i64 qy):=(cell_of_block (x:=⟨wr.heap.size,1,none⟩) (yq _ _ _ _ hne)).trans q1;revert hO5 hO6 hB6 HRUN1 q1';generalize (w3.drewN 1).setCell ⟨W.heap.size,0,none⟩ (.int .i64 (min X qx))=w5;intro hO5 hO6 HRUN1 hB6 q1';have o1':w5.cell? ⟨W.heap.size,1,none⟩=some (.int .i64 Y):=(by simp[World.cell?,hO5]);have HRUN2:=yK (run_store_int (P:=Tryz.prog) (T:=3) (k:=.i64) (n:=min Y qy) sizeOf3 (w:=w5) (q:=⟨W.heap.size,1,none⟩) o1' (frozen_of_row _ _ 1 _ _ hO5));have HH:=yK (And.intro hB6 hO6);clear hB6 hO6 hO5 o1' hO4 hO3 hQ3 hB3;refine qaz [11,13] [0,0,0,0,0,0,0,1,1,1,0,0,1,0] (by kernel_rfl) (by kernel_rfl) (λ m w'=>match m with|0=>∃ n,w'=w3.drewN n|1=>∃ n,w'=w5.drewN n|_=>True) ⟨1,rfl⟩ ?_
   repeat (first|(refine qW (by rfl) ?_)|(refine qaN (by rfl) (by rfl) (by rfl) ?_;(try dsimp only);go_big_quiet_step (fail);refine wpQuiet_nil ?_)|(refine qbb (by rfl) (by decide) (by rfl) rfl ?_;(try dsimp only);go_big_quiet_step (fail);refine wpQuiet_nil ?_;go_big_quiet_step (fail);refine wpQuiet_nil ⟨rfl,?_⟩))
   refine qaO ?_;refine zH rfl rfl rfl rfl rfl HRUN1.out ⟨0,rfl⟩ ?_;refine zH rfl rfl rfl rfl rfl HRUN2.out trivial ?_;refine qat ?_;clear o0 o1 q0 q1 q1' HRUN1 HRUN2 hne e1 e2;gi_wp2_with fail
   go_roundw
   case rel=>exact⟨i+1,by omega,by go_num,yK ⟨HH.out.1,by rw[HSX.out,HSY.out];exact HH.out.2⟩⟩
   case measure=>simp[intOf];omega
  obtain rfl:i=t.ground.length:=by omega
  have hR:=HR.out;rw[qbz HGE.out (λ q hq=>(zbQ (HGI.out q hq)).1.2),qbz HGE.out (λ q hq=>(zbQ (HGI.out q hq)).2.1.2)]at hR;have HSTART:Hid (J W.heap.size (waysN t.ground 0).length wr∧wr.heap[W.heap.size]?=some (.cells #[.int .i64 (leftL t.ground),.int .i64 (lowL t.ground),.int .i64 0] 56)∧W.heap.size<wr.heap.size) :=
   yK ⟨H0.out _ _ (ye _) hR.1,hR.2,(ya.1 hR.2).1⟩
  clear HR hR H0;have hgx:0≤leftL t.ground∧leftL t.ground≤15:=by
   obtain⟨q,hq,e⟩:=zaA (·.x) HGE.out;have:=HGI.out q hq;unfold inQ at this;unfold leftL;omega
  have hgy:0≤lowL t.ground∧lowL t.ground≤15:=by
   obtain⟨q,hq,e⟩:=zaA (·.y) HGE.out;have:=HGI.out q hq;unfold inQ at this;unfold lowL;omega
  obtain⟨gx,hgx'⟩:∃ gx,leftL t.ground=gx:=⟨_,rfl⟩;obtain⟨gy,hgy'⟩:∃ gy,lowL t.ground=gy:=⟨_,rfl⟩;rw[hgx']at HSTART hgx;rw[hgy']at HSTART hgy;have HGX:=yK hgx';clear hgx';have HGY:=yK hgy';clear hgy';gi_wp2_with fail
  gi_loopw [42] (λ z wr=>∃ i:Nat,i≤8∧z=.int .i64 i∧Hid (J W.heap.size (waysN t.ground i).length wr∧wr.heap[W.heap.size]?=some (.cells #[.int .i64 gx,.int .i64 gy,.int .i64 0] 56)∧W.heap.size<wr.heap.size)) (λ z _=>8-(intOf z).toNat)
  case atStart=>exact⟨0,by omega,rfl,HSTART⟩
  clear HSTART;obtain⟨i,hi,rfl,HR⟩:=hrel;by_cases hlt:i<8
  ·have hbd:=HN.out _ _ _ HR.out.1;have hblk:=hbd.blk;simp only at hblk;have b0:wr.cell? ⟨bb,0,none⟩=some (.slice (some ga) t.ground.length gc):=(by simp only[World.cell?,hblk];rfl);have hgq:QsAt wr ga t.ground:=by
    rcases hbd.ground with⟨h,_⟩|⟨a,c,h1,_,_,h4⟩
    ·cases h
    simp only[yC,yo]at h1;rw[h1.1];exact h4
   have HGQ:=yK hgq;clear hgq;have HBD:=yK hbd;clear hbd hblk;obtain⟨m,hm⟩:∃ m,decide (4≤i)=m:=⟨_,rfl⟩;obtain⟨k,hk⟩:∃ k,i % 4=k:=⟨_,rfl⟩;have hmod:((i:Int) % 4)=(k:Int):=(by omega);have hk4:k<4:=(by omega);have hdec:decide ((4:Int)≤i)=m:=(by rw[← hm,decide_eq_decide];omega);have HIMG:Hid (imgT t.ground i=t.ground.map (tr m k)):=yK (by unfold imgT;rw[hm,hk]);have HST:Hid (SyI wr.heap.size wr wr (.slice none 0 0) ((t.ground.take 0).map (tr m k))):=yK ⟨⟨rfl,.inl ⟨rfl,rfl⟩⟩,yf _ _,ye _⟩;have HML:=yK (λ q hq=>qhR (zbQ (HGI.out q hq)) m k);clear hm hk;obtain⟨wo,hwo⟩:∃ wo:World,wo=wr:=⟨_,rfl⟩;gi_wp2_with fail;have hd8:decide ((i:Int)<8)=true:=yw (by omega);rw[hd8];clear hd8
   gi_loopw [8,9,10,51] (λ u u1 u2 z wr=>∃ j:Nat,j≤t.ground.length∧z=.int .i64 j∧u1=.int .i64 (zM (·.x) (t.ground.map (tr m k)) j)∧u2=.int .i64 (zM (·.y) (t.ground.map (tr m k)) j)∧Hid (SyI wo.heap.size wo wr u ((t.ground.take j).map (tr m k)))) (λ _ _ _ z _=>t.ground.length-(intOf z).toNat)
   case atStart=>exact⟨0,by omega,rfl,rfl,rfl,by rw[hwo];exact HST⟩
   clear HST b0;rw[← hwo]at HR HGQ HBD;clear hwo;have HRR:=HR;clear HR;obtain⟨j,hj,rfl,rfl,rfl,HR⟩:=hrel;have hLj:((t.ground.take j).map (tr m k)).length=j:=(by rw[yB,Yf];omega);obtain⟨p',c',rfl⟩:=qg HR.out.own;rw[hLj]at HR ⊢;by_cases hlt:j<t.ground.length
   ·obtain⟨q,hq⟩:∃ q,t.ground[j]?=some q:=⟨_,yb hlt⟩;have hin:=HGI.out q (yg hq);have HBQ:=yK (zbQ hin);clear hin;have hs2:=HGQ.out.below HR.out.below;have c0:=hs2.at0 j q hq;have c1:=hs2.at1 j q hq;have c2:=hs2.at2 j q hq;have hub:Hid ((Value.slice p' j c').ownBlock≠some wr.heap.size):=yK (λ e=>by have:=(HR.out.own.lt _ e).2;omega);have himg:(t.ground.map (tr m k))[j]?=some (tr m k q):=(by rw[yQ,hq];rfl);have HSX:Hid (zM (·.x) (t.ground.map (tr m k)) (j+1)=min (zM (·.x) (t.ground.map (tr m k)) j) (tr m k q).x):=yK (qbf himg);have HSY:Hid (zM (·.y) (t.ground.map (tr m k)) (j+1)=min (zM (·.y) (t.ground.map (tr m k)) j) (tr m k q).y):=yK (qbf himg);have hml:∀ q∈t.ground.map (tr m k),bdQ q:=λ q hq=>by
     obtain⟨p,hp,rfl⟩:=yP.1 hq;exact HML.out p hp
    obtain⟨hbx0,hbx1⟩:=zaZ (f:=(·.x)) (λ q hq=>(hml q hq).1.1) j;obtain⟨hby0,hby1⟩:=zaZ (f:=(·.y)) (λ q hq=>(hml q hq).2.1.1) j;have HSTEP:Hid ((t.ground.take (j+1)).map (tr m k)=(t.ground.take j).map (tr m k)++[tr m k q]):=yK (by rw[qo hq,Ym];rfl);have HTR:=yK (HML.out q (yg hq));clear hs2 hq himg hml;obtain⟨q1,hq1⟩:∃ q1:Q,q1=if m then trM q else q:=⟨_,rfl⟩
    have e1:tr m k q=trN k q1:=(by rw[hq1];rfl);have HMB:Hid (bdQ q1):=yK (by rw[hq1];split;exact qf9 HBQ.out;exact HBQ.out);rw[e1]at HSX HSY HSTEP HTR;clear e1;obtain⟨qx,qy,qs⟩:=q;simp only at c0 c1 c2;have hbq:=HBQ.out;unfold bdQ at hbq;simp only at hbq;obtain⟨⟨bx0,bx1⟩,⟨by0,by1⟩,bs0,bs1⟩:=hbq;have HQ1:=yK hq1;clear hq1;revert hbx0 hbx1 hby0 hby1 HSX HSY;generalize zM (·.x) (t.ground.map (tr m k)) j=X;generalize zM (·.y) (t.ground.map (tr m k)) j=Y;intro hbx0 hbx1 hby0 hby1 HSY HSX;obtain⟨wq,rfl⟩:∃ wq:World,wq=wr:=⟨_,rfl⟩;have hwq:wo.heap.size≤wq.heap.size:=HR.out.base;rcases (by cases m;exact .inl rfl;exact .inr rfl:m=false∨m=true)with hm|hm
    all_goals
     rw[hm]at hdec
     have HM:=yK hm
     clear hm
     gi_wp2_with fail
     gi_loopw [69] (λ z W3=>∃ (k':Nat) (x' y' s':Int),k'≤k∧z=.int .i64 k'∧Hid ((⟨x',y',s'⟩:Q)=trN k' q1∧W3.heap[wq.heap.size]?=some (.cells #[.int .i64 x',.int .i64 y',.int .i64 s'] 56)∧SyI wo.heap.size wo W3 (.slice p' j c') ((t.ground.take j).map (tr m k)))) (λ z _=>k-(intOf z).toNat)
     case atStart =>
      refine⟨0,_,_,_,by omega,rfl,yK ⟨?_,yd wq _,HR.out.keep ((yf _ wq).alloc (ye _) _)⟩⟩;show _=q1;rw[HQ1.out,HM.out]
      first
       | rfl
       | exact Q.ext' rfl rfl (by simp only[if_true,trM];omega)
     case round =>
      clear c0 c1 c2 hdec;obtain⟨k',x',y',s',hk',rfl,HR2⟩:=hrel;have hb2:bdQ ⟨x',y',s'⟩:=(by rw[HR2.out.1];exact zcV HMB.out k');unfold bdQ at hb2;simp only at hb2;obtain⟨⟨cx0,cx1⟩,⟨cy0,cy1⟩,cs0,cs1⟩:=hb2;have hW:=HR2.out.2.1;have d0:wr.cell? ⟨wq.heap.size,0,none⟩=some (.int .i64 x'):=(by simp[World.cell?,hW]);have d1:wr.cell? ⟨wq.heap.size,1,none⟩=some (.int .i64 y'):=(by simp[World.cell?,hW]);have d2:wr.cell? ⟨wq.heap.size,2,none⟩=some (.int .i64 s'):=(by simp[World.cell?,hW]);by_cases hkt:k'<k
      ·have f0:wr.frozen? ⟨wq.heap.size,0,none⟩=false:=frozen_of_row wr _ 0 _ _ hW;have f1:wr.frozen? ⟨wq.heap.size,1,none⟩=false:=frozen_of_row wr _ 1 _ _ hW;have f2:wr.frozen? ⟨wq.heap.size,2,none⟩=false:=frozen_of_row wr _ 2 _ _ hW;have HW:=yK hW;clear hW;gi_wp2_with fail
       go_roundw
       case rel =>
        refine⟨k'+1,-y',x',(s'+3) % 4,by omega,by go_num,yK ⟨?_,zgj (qdp (zdo HW.out _) _) _,((HR2.out.2.2.cell hwq hub.out 0 _).cell hwq hub.out 1 _).cell hwq hub.out 2 _⟩⟩;show _=trT (trN k' _);rw[← HR2.out.1];rfl
       case measure=>simp[intOf];omega
      obtain rfl:k'=k:=(by omega);have HPI:=yK HR2.out.2.2;have HEQ:Hid ((⟨x',y',s'⟩:Q)=trN k' q1):=yK HR2.out.1;have HW:=yK hW;have hx1:(trN k' q1).x=x':=(by rw[← HEQ.out]);have hy1:(trN k' q1).y=y':=(by rw[← HEQ.out]);rw[hx1]at HSX;rw[hy1]at HSY;clear hx1 hy1 HR2 hW HR;have e1:(if x'<X then x' else X)=min X x':=by split <;> omega
      have e2:(if y'<Y then y' else Y)=min Y y':=by split <;> omega
      gi_wp2_with fail;gi_quiet (fail);have HM1:Hid (j+1≤maxLen):=yK (by simp only[maxLen];omega);have HM2:Hid ((j+1)*24≤140737488355328):=yK (by omega);have hLj:((t.ground.take j).map (tr m k')).length=j:=(by rw[yB,Yf];omega);have HP2:=yK (HPI.out.keep (below_drewN wr.heap.size wr nq));have HROW:Hid ((wr.drewN nq).ownsRow wo.heap.size 56 3 (.slice p' j c') j (qCells ((t.ground.take j).map (tr m k')))):=yK (by have:=HP2.out.own;unfold OwnQ at this;rwa [hLj]at this);have hsz:wo.heap.size≤(wr.drewN nq).heap.size:=HP2.out.base;clear hLj;have d0:(wr.drewN nq).cell? ⟨wq.heap.size,0,none⟩=some (.int .i64 x'):=d0;have d1:(wr.drewN nq).cell? ⟨wq.heap.size,1,none⟩=some (.int .i64 y'):=d1;have d2:(wr.drewN nq).cell? ⟨wq.heap.size,2,none⟩=some (.int .i64 s'):=d2;clear HPI HW;revert HP2 HROW hsz d0 d1 d2;generalize wr.drewN nq=w6;intro HP2 HROW hsz d0 d1 d2;obtain⟨iQ,hiQ,hzQ,hsQ,hbQ⟩:=info_parts infoQ;gi_wp2_with (first
       | (gi_at_builtin;refine wpListIn_append_own _ rfl _ _ 22 rfl wo.heap.size 56 iQ _ 3 24 underlying22 hiQ hzQ hsQ hbQ rfl (by decide) (.slice p' j c') j (qCells ((t.ground.take j).map (tr m k'))) rfl (HROW.out.alloc _) ⟨w6.heap.size,0,none⟩ 1 1 (qVals ⟨x',y',s'⟩) rfl rfl (qaY ⟨x',y',s'⟩) (zao _) HM1.out HM2.out (by rw[yp];omega) ?_;intro v' w7 hown' hgrow _;obtain⟨p'',c'',rfl⟩:=qg hown'))
      have hga:w6.grownBy w7 (Value.slice p' j c').ownBlock:=⟨hgrow.os,hgrow.tape,hgrow.output,yJ (by simp) hgrow.size,λ k hk hne=>(hgrow.block k (by simp;omega) hne).trans (Below.heap_alloc _ _ _ hk)⟩;have hN:SyI wo.heap.size wo w7 (.slice p'' (j+1) c'') ((t.ground.take (j+1)).map (tr m k')):=by
       refine HP2.out.grow hga (λ z hz=>(HROW.out.lt z hz).1) ?_;have e:(t.ground.take (j+1)).map (tr m k')=(t.ground.take j).map (tr m k')++[⟨x',y',s'⟩]:=(by rw[HEQ.out];exact HSTEP.out);have el:((t.ground.take (j+1)).map (tr m k')).length=j+1:=(by rw[yB,Yf];omega);unfold OwnQ;rw[el,e,zaj];exact hown'
      have HNN:=yK hN;clear hN hga hown' hgrow HROW HP2 HEQ d0 d1 d2
      go_roundw
      case rel=>exact⟨j+1,by omega,by go_num,by rw[HSX.out],by rw[HSY.out],HNN⟩
      case measure=>simp[intOf];omega
   obtain rfl:j=t.ground.length:=(by omega);have hml:∀ q∈t.ground.map (tr m k),bdQ q:=λ q hq=>by
    obtain⟨p,hp,rfl⟩:=yP.1 hq;exact HML.out p hp
   have hne:t.ground.map (tr m k)≠[]:=(by simpa using HGE.out);have hlen:(t.ground.map (tr m k)).length=t.ground.length:=(by simp);have hlx:zM (·.x) (t.ground.map (tr m k)) t.ground.length=leftL (t.ground.map (tr m k)):=(by rw[← hlen];exact qbz hne (λ q hq=>(hml q hq).1.2));have hly:zM (·.y) (t.ground.map (tr m k)) t.ground.length=lowL (t.ground.map (tr m k)):=(by rw[← hlen];exact qbz hne (λ q hq=>(hml q hq).2.1.2));obtain⟨hbx0,hbx1⟩:=zaZ (f:=(·.x)) (λ q hq=>(hml q hq).1.1) t.ground.length;obtain⟨hby0,hby1⟩:=zaZ (f:=(·.y)) (λ q hq=>(hml q hq).2.1.1) t.ground.length;rw[hlx]at hbx0 hbx1 ⊢;rw[hly]at hby0 hby1 ⊢;have HWT:Hid (wayT t.ground i=(t.ground.map (tr m k)).mapM (atT t.ground (gx-leftL (t.ground.map (tr m k))) (gy-lowL (t.ground.map (tr m k))))):=yK (by rw[qeQ,HIMG.out,HGX.out,HGY.out]);have hLB:∀ q∈t.ground.map (tr m k),bdQ q∧leftL (t.ground.map (tr m k))≤q.x∧lowL (t.ground.map (tr m k))≤q.y:=λ q hq=>⟨hml q hq,zaw _ hq,zaw _ hq⟩;have hown:=HR.out;rw[Yd]at hown;clear hlx hly HIMG hml HR HML hdec hmod hk4 hLj;revert hbx0 hbx1 hby0 hby1 HWT hne hlen hLB hown;generalize t.ground.map (tr m k)=I;intro hne hlen hbx0 hbx1 hby0 hby1 HWT hLB hown;obtain⟨lx,hlx⟩:∃ lx,leftL I=lx:=⟨_,rfl⟩;obtain⟨ly,hly⟩:∃ ly,lowL I=ly:=⟨_,rfl⟩;rw[hlx]at hbx0 hbx1 HWT hLB ⊢;rw[hly]at hby0 hby1 HWT hLB ⊢;clear hlx hly;have HLB:=yK hLB;clear hLB;have HNE:=yK hne;clear hne;have HLEN:=yK hlen;clear hlen;obtain⟨ia,rfl,hia⟩:∃ ia,p'=some ia∧QsAt wr ia I:=by
    rcases hown.own.has with⟨_,h⟩|⟨a,c,h1,_,_,h4⟩
    ·exact absurd h HNE.out
    simp only[yC]at h1;exact⟨a,h1.1,h4⟩
   have HIA:=yK hia;clear hia;have HBW:=yK (And.intro hown.below hown.base);clear hown;obtain⟨wi,hwi⟩:∃ wi:World,wi=wr:=⟨_,rfl⟩;gi_wp2_with fail
   gi_loopw [13,97] (λ u z wr=>∃ (j:Nat) (T:List Nat),j≤t.ground.length∧z=.int .i64 j∧Hid ((I.take j).mapM (atT t.ground (gx-lx) (gy-ly))=some T∧RI.Own wr wi.heap.size u (T.map λ n:Nat=>(n:Int))∧Below wi.heap.size wi wr)) (λ _ z _=>t.ground.length-(intOf z).toNat)
   case atStart=>exact⟨0,[],by omega,rfl,yK ⟨rfl,RI.own_nil _ _,by rw[hwi];exact yf _ _⟩⟩
   rw[← hwi]at HIA HBW;clear hwi;obtain⟨j,T,hj,rfl,HR⟩:=hrel;have hTl:T.length=j:=by
    have h1:=qb5 HR.out.1;rw[Yf,HLEN.out]at h1;omega
   obtain⟨tp,tc,rfl⟩:=qg HR.out.2.1;have hTl2:(T.map λ n:Nat=>(n:Int)).length=j:=(by rw[yB,hTl]);rw[hTl2]at HR ⊢;have hBwo:Below wo.heap.size wo wr:=HBW.out.1.trans (HR.out.2.2.mono HBW.out.2);have hJr:J W.heap.size (waysN t.ground i).length wr:=HJ.out _ _ _ _ HRR.out.1 hBwo;have hOr:wr.heap[W.heap.size]?=some (.cells #[.int .i64 gx,.int .i64 gy,.int .i64 0] 56):=(hBwo.block _ HRR.out.2.2).trans HRR.out.2.1;have HJR:=yK hJr;clear hJr;have HOR:=yK hOr;clear hOr hBwo hTl2;by_cases hlt:j<t.ground.length
   ·obtain⟨q,hq⟩:∃ q,I[j]?=some q:=⟨_,yb (by rw[HLEN.out];exact hlt)⟩;obtain⟨hbq,hqx,hqy⟩:=HLB.out q (yg hq);have hs2:=HIA.out.below HR.out.2.2;have c0:=hs2.at0 j q hq;have c1:=hs2.at1 j q hq;have c2:=hs2.at2 j q hq;have HTK:=yK (qo hq);clear hq hs2;obtain⟨qx,qy,qs⟩:=q;simp only at c0 c1 c2 hqx hqy;unfold bdQ at hbq;simp only at hbq;obtain⟨⟨bx0,bx1⟩,⟨by0,by1⟩,bs0,bs1⟩:=hbq;have hQ:=yd wr (.cells #[.int .i64 qx,.int .i64 qy,.int .i64 qs] 56);have hB8:Below wr.heap.size wr (wr.alloc (.cells #[.int .i64 qx,.int .i64 qy,.int .i64 qs] 56)):=(yf _ wr).alloc (ye _) _
    gi_upto_region 27 with fail
    clear c0 c1 c2;revert hQ hB8;generalize wr.alloc (.cells #[.int .i64 qx,.int .i64 qy,.int .i64 qs] 56)=w8;intro hQ hB8;have hJ8:=HJ.out _ _ _ _ HJR.out hB8;have hO8:=(hB8.block _ (ya.1 HOR.out).1).trans HOR.out;have hbd8:=HN.out _ _ _ hJ8;have blk8:=hbd8.blk;simp only at blk8;have d1:∀ d:SubW w8,d.1.cell? ⟨bb,5,none⟩=some (.map (some qm)):=λ d=>by simp only[World.cell?,d.block blk8];rfl
    have d2:∀ d:SubW w8,d.1.cell? ⟨W.heap.size,0,none⟩=some (.int .i64 gx):=λ d=>by simp only[World.cell?,d.block hO8];rfl
    have d3:∀ d:SubW w8,d.1.cell? ⟨W.heap.size,1,none⟩=some (.int .i64 gy):=λ d=>by simp only[World.cell?,d.block hO8];rfl
    have d4:∀ d:SubW w8,d.1.cell? ⟨wr.heap.size,0,none⟩=some (.int .i64 qx):=λ d=>by simp only[World.cell?,d.block hQ];rfl
    have d5:∀ d:SubW w8,d.1.cell? ⟨wr.heap.size,1,none⟩=some (.int .i64 qy):=λ d=>by simp only[World.cell?,d.block hQ];rfl
    have d6:∀ d:SubW w8,d.1.cell? ⟨wr.heap.size,2,none⟩=some (.int .i64 qs):=λ d=>by simp only[World.cell?,d.block hQ];rfl
    have hqm:∀ d:SubW w8,HasM Q.val d.1 qm (numQ t.ground):=λ d=>hbd8.quarter.below d.2;have HQM:=yK hqm;clear hqm;have HSHQ:Hid ((⟨qx-lx+gx,qy-ly+gy,qs⟩:Q)=sh (gx-lx) (gy-ly) ⟨qx,qy,qs⟩):=yK (Q.ext' (by simp only[sh];omega) (by simp only[sh];omega) rfl);have HOKS:Hid (∀ p∈numQ t.ground,smallQ p.1):=yK λ p hp=>qg2 (HGI.out p.1 (by rw[← qaD t.ground];exact yP.2 ⟨p,hp,rfl⟩));have HNDQ:Hid (t.ground.Nodup):=yK HGS.out.nodup;have HJ8:=yK hJ8;clear hJ8;have HO8:=yK hO8;clear hO8;have HB8:=yK hB8;clear hB8;clear hbd8 blk8 hQ
    cases hat:atT t.ground (gx-lx) (gy-ly) ⟨qx,qy,qs⟩with
    | none =>
     have d7:∀ d:SubW w8,(Instr.lookup 139 (.map (some qm)) (.agg #[.int .i64 (qx-lx+gx),.int .i64 (qy-ly+gy),.int .i64 qs]) true).run Tryz.prog d.1=.ok (.tuple #[.int .i64 0,.bool false]) d.1:=λ d =>
      zY (x:=(⟨qx-lx+gx,qy-ly+gy,qs⟩:Q)) encQw underlying139 (zeroValue3 _) (HQM.out d) HOKS.out (by unfold smallQ;simp only;omega) (λ p hp e=>zgP hat (by rw[← HSHQ.out,← e,← qaD t.ground];exact yP.2 ⟨p,hp,rfl⟩)) true
     have HWN:Hid (wayT t.ground i=none):=yK (by
      rw[HWT.out];refine zdf (i:=j+1) ?_;rw[HTK.out,zdx,HR.out.1,hat];rfl)
     have hd:((j:Int)==(t.ground.length:Int))=false:=(by simp only[Yt,ne_eq];omega);clear hat;refine zV 27 (by kernel_rfl) (by kernel_rfl) (by kernel_rfl) ?_;simp only[yh,yj,yi,yl]
     repeat (go_big_quiet_step (fail))
     refine wpQuiet_nil ?_;intro dq;have hJ9:=HJ.out _ _ _ _ HJ8.out dq.2;have hO9:=dq.block HO8.out;have hbd9:=HN.out _ _ _ hJ9;have blk9:=hbd9.blk;simp only at blk9;revert hJ9 hO9 blk9;clear hbd9;generalize dq.1=w9;intro hJ9 hO9 blk9;have b0:w9.cell? ⟨bb,0,none⟩=some (.slice (some ga) t.ground.length gc):=(by simp only[World.cell?,blk9];rfl);have HJ9:=yK hJ9;have HO9:=yK hO9;clear d1 d2 d3 d4 d5 d6 d7 hJ9 hO9 blk9;gi_wp2_with fail
     go_roundw
     case rel=>exact⟨i+1,by omega,by go_num,yK ⟨by rw[qc9 HWN.out];exact HJ9.out,HO9.out,(ya.1 HO9.out).1⟩⟩
     case measure=>simp[intOf];omega
    | some n =>
     obtain⟨hgn,hnl⟩:=zei hat;have d7:∀ d:SubW w8,(Instr.lookup 139 (.map (some qm)) (.agg #[.int .i64 (qx-lx+gx),.int .i64 (qy-ly+gy),.int .i64 qs]) true).run Tryz.prog d.1=.ok (.tuple #[.int .i64 n,.bool true]) d.1:=λ d =>
      qO (x:=(⟨qx-lx+gx,qy-ly+gy,qs⟩:Q)) encQw underlying139 (HQM.out d) HOKS.out (by rw[qaD];exact HNDQ.out) (qdZ (by rw[HSHQ.out];exact hgn)) true
     have HT2:Hid ((I.take (j+1)).mapM (atT t.ground (gx-lx) (gy-ly))=some (T++[n])):=yK (by
      rw[HTK.out,zdx,HR.out.1,hat];rfl)
     clear hat hgn;refine zV 27 (by kernel_rfl) (by kernel_rfl) (by kernel_rfl) ?_;simp only[yh,yj,yi,yl]
     repeat (go_big_quiet_step (fail))
     refine wpQuiet_nil ?_;intro dq;have hB9:=HB8.out.trans (dq.2.mono HB8.out.size);revert hB9;generalize dq.1=w9;intro hB9;clear d1 d2 d3 d4 d5 d6 d7;have HB9:=yK (HR.out.2.2.trans (hB9.mono HR.out.2.2.size));have hro:=qf HR.out.2.1 hB9;have hTl2:(T.map λ n:Nat=>(n:Int)).length=j:=(by rw[yB,hTl]);rw[hTl2]at hro;have HRO:=yK hro;clear hro hB9;have HM1:Hid (j+1≤maxLen):=yK (by simp only[maxLen];omega);have HM2:Hid ((j+1)*8≤140737488355328):=yK (by omega);have hsz:wi.heap.size≤w9.heap.size:=HB9.out.size;clear hTl2;obtain⟨iI,hiI,hzI,hsI,hbI⟩:=info_parts zcl;gi_wp2_with (first
      | (gi_at_builtin;refine wpListIn_append_own _ rfl _ _ 30 rfl wi.heap.size 3 iI _ 1 8 underlying30 hiI hzI hsI hbI rfl (by decide) (.slice tp j tc) j (RI.cells (T.map λ n:Nat=>(n:Int))) rfl (HRO.out.alloc _) ⟨w9.heap.size,0,none⟩ 1 1 [.int .i64 n] rfl rfl (qgo _ _ _) (by simp[Value.oneCell']) HM1.out HM2.out (by rw[yp];omega) ?_;intro v' w10 hown' hgrow _;obtain⟨tp',tc',rfl⟩:=qg hown'))
     have HF:Hid (RI.Own w10 wi.heap.size (.slice tp' (j+1) tc') ((T++[n]).map λ n:Nat=>(n:Int))∧Below wi.heap.size wi w10):=yK ⟨by
      have e:((T++[n]).map λ n:Nat=>(n:Int))=(T.map λ n:Nat=>(n:Int))++[(n:Int)]:=(by simp);rw[e];refine RI.own_snoc ?_;rw[yB,hTl];exact hown',(HB9.out.alloc hsz _).grown hgrow (by rw[yp];omega) λ z hz=>(HRO.out.lt z hz).1⟩
     clear hown' hgrow
     go_roundw
     case rel=>exact⟨j+1,T++[n],by omega,by go_num,yK ⟨HT2.out,HF.out⟩⟩
     case measure=>simp[intOf];omega
   obtain rfl:j=t.ground.length:=(by omega);have HWY:Hid (wayT t.ground i=some T):=yK (by
    rw[HWT.out];have h1:=HR.out.1;rw[← HLEN.out,Yd]at h1;exact h1)
   have hd:((t.ground.length:Int)==(t.ground.length:Int))=true:=beq_self_eq_true _;have hbd9:=HN.out _ _ _ HJR.out;have blk9:=hbd9.blk;simp only at blk9;have b0:wr.cell? ⟨bb,0,none⟩=some (.slice (some ga) t.ground.length gc):=(by simp only[World.cell?,blk9];rfl);clear hbd9 blk9;obtain⟨fn,tmps,assign,body,hyl,hR⟩:=HY.out _ (waysN t.ground i).length #[.slice tp t.ground.length tc] wr _ (by
     obtain⟨h,_⟩:=yc.1 (qdq (by omega) HWY.out);exact h) ⟨_,T,qdq (by omega) HWY.out,rfl,zG HR.out.2.1 (YC _)⟩ HJR.out (ye _) HOR.out rfl
   gi_wp2_with fail;refine hR.mono ?_;rintro e W5 (⟨rfl,hJ5,hO5⟩|⟨rfl,hJx5⟩)
   ·have HF:Hid (J W.heap.size (waysN t.ground (i+1)).length W5):=yK (by
     rw[qbL HWY.out,yL];exact hJ5)
    have HO5:=yK hO5;clear hO5 hJ5 b0;gi_wp2_with fail
    go_roundw
    case rel=>exact⟨i+1,by omega,by go_num,yK ⟨HF.out,HO5.out,(ya.1 HO5.out).1⟩⟩
    case measure=>simp[intOf];omega
   clear b0;gi_wp2_with fail;refine Yc (results_none rfl _ _ _) rfl ?_;exact⟨⟨_,rfl⟩,.inr hJx5⟩
  obtain rfl:i=8:=by omega
  gi_wp2
  go_end0
  exact⟨⟨_,rfl⟩,.inl ⟨_,HR.out.1⟩⟩
section
variable {P:Program}
theorem eval_put_same {a:Act} {d:Nat} (h:d<a.tmps.size) (v:Value):(a.put (some d) v).eval (.tmp d)=v:=by
 simp[Act.put,Act.eval,h]
theorem zeJ {id:Nat} {Q:Exit→Act→World→Prop} {a:Act} {w:World} {o0 o1 o2 o3:Oper} {T U:TypeId} {d0 d1:Nat} {x p q:Operand} {cT cU oT oU:Array Value} {bT bU bX:Nat} {dU:TypeDesc}
  (hm:P.follows .mixedOrders=true) (hB:gB #[o0,o1,o2,o3] [2,3] [0,1,0,0]=true)
  (e0:o0.op=.build T #[]) (g0:o0.guard=none) (t0:o0.dst=some d0)
  (e1:o1.op=.load U x) (g1:o1.guard=none) (t1:o1.dst=some d1)
  (e2:o2.op=.store T p (.tmp d0)) (g2:o2.guard=none) (t2:o2.dst=none)
  (e3:o3.op=.store U q (.tmp d1)) (g3:o3.guard=none) (t3:o3.dst=none)
  (hbuilt:P.built T []=some cT) (hd0:d0<a.tmps.size) (hd1:d1<a.tmps.size) (hne:d1≠d0)
  (hx:(a.put (some d0) (.agg cT)).eval x=.pointer (some ⟨bX,0,none⟩))
  (hp:((a.put (some d0) (.agg cT)).put (some d1) (.agg cU)).eval p=.pointer (some ⟨bT,0,none⟩))
  (hq:((a.put (some d0) (.agg cT)).put (some d1) (.agg cU)).eval q=.pointer (some ⟨bU,0,none⟩))
  (hgX:w.heap[bX]?=some (.cells cU U (0,0))) (hgT:w.heap[bT]?=some (.cells oT T (0,0))) (hgU:w.heap[bU]?=some (.cells oU U (0,0)))
  (hxt:bX≠bT) (hut:bU≠bT) (hu:P.underlying U=some dU) (hrow:dU.isRow=true)
  (hiT:(P.info? T).map (·.size)=some cT.size) (hiU:(P.info? U).map (·.size)=some cU.size) (hoT:oT.size=cT.size) (hoU:oU.size=cU.size)
  (h1T:cT.all (·.oneCell')=true) (h1U:cU.all (·.oneCell')=true)
  (h:Q .normal ((a.put (some d0) (.agg cT)).put (some d1) (.agg cU)) (((w.drewN 1).setRow bT cT).setRow bU cU)) :
  (Code.region id #[o0,o1,o2,o3] true).wp P Q a w:=by
 have hgU2:=(setRow_other (w.drewN 1) bT bU cT hut).trans hgU;have hgX2:=(setRow_other (w.drewN 1) bT bX cT hxt).trans hgX;have w0:∀ b:Act,Region.wanted o0 (yielded #[o0,o1,o2,o3] b.tmps)=true:=λ b=>by simp[Region.wanted,g0]
 have w1:∀ b:Act,Region.wanted o1 (yielded #[o0,o1,o2,o3] b.tmps)=true:=λ b=>by simp[Region.wanted,g1]
 refine zb3 (l:=[o0,o1,o2,o3]) [2,3] [0,1,0,0] hm hB (λ m w'=>match m with|0=>∃ n,w'=w.drewN n|1=>∃ n,w'=((w.drewN 1).setRow bT cT).drewN n|_=>True) ⟨1,rfl⟩ ?_;refine qaN (by rfl) (by rfl) (by rw[e0];rfl) ?_;unfold wpQuiet;rw[YA (w0 a)];refine⟨.agg cT,λ w' _=>?_,?_⟩
 ·unfold Oper.quietAt execOp;have hb:(Instr.build T ((#[]:Array (Nat × Operand)).map λ (i,x)=>(i,a.eval x))).run P w'=.ok (.agg cT) w':=run_build w' T _ cT (by rw[← hbuilt];simp);simp only[e0,yG,hb,yz,yH];exact⟨rfl,rfl⟩
 refine wpQuiet_nil ?_;rw[t0];refine qbb (by rfl) (by decide) (by rw[e1];rfl) g1 ?_;unfold wpQuiet;rw[YA (w1 _)];have hl:∀ W:World,W.heap[bX]?=some (.cells cU U (0,0))→(Instr.loadAt U (.pointer (some ⟨bX,0,none⟩))).run P W=.ok (.agg cU) W:=λ W hW=>by
  have:=run_loadVar_row (P:=P) W bX U U cU (0,0) _ hW hu (by cases dU <;> simp_all) hiU
  simp only[Instr.loadAt,Instr.sureAddr,yG,yH,yz,this]
 refine qC U x e1 hx (by rintro W ⟨n,rfl⟩;exact hl _ hgX) ?_;refine wpQuiet_nil ?_;unfold wpQuiet;rw[YA (w1 _)];refine qC U x e1 hx (by rintro W ⟨n,rfl⟩;exact hl _ hgX2) ?_;refine wpQuiet_nil ⟨rfl,?_⟩;rw[t1];refine qW (by rfl) (qW (by rfl) (qaO ?_));have hz0:((a.put (some d0) (.agg cT)).put (some d1) (.agg cU)).eval (.tmp d0)=.agg cT:=by
  simp[Act.put,Act.eval,hd0,Array.getElem?_setIfInBounds,hne]
 have hz1:((a.put (some d0) (.agg cT)).put (some d1) (.agg cU)).eval (.tmp d1)=.agg cU:=by
  simp[Act.put,Act.eval,hd1,Array.getElem?_setIfInBounds]
 refine zH (o:=o2) rfl g2 e2 hp hz0 (w':=(w.drewN 1).setRow bT cT) ?_ ⟨0,rfl⟩ ?_
 ·simp only[Instr.storeAt,Instr.sureAddr,yG,yH,yz];exact run_storeVar_row (P:=P) (w.drewN 1) bT T T _ cT hgT hiT hoT h1T
 rw[t2];refine zH (o:=o3) rfl g3 e3 hq hz1 (w':=((w.drewN 1).setRow bT cT).setRow bU cU) ?_ trivial ?_
 ·simp only[Instr.storeAt,Instr.sureAddr,yG,yH,yz];exact run_storeVar_row (P:=P) _ bU U U _ cU hgU2 hiU hoU h1U
 rw[t3];exact qat h
end
end Go.Proofs.YtiinlplgloaanaaGreatDoor
