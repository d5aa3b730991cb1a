/- LayerNever: the law. -/
import Derived.Test.YtiinlplgloaanaaGreatDoorZzLayerNever47
set_option linter.all false
set_option maxRecDepth 100000
set_option maxHeartbeats 16000000
namespace Go.Proofs.YtiinlplgloaanaaGreatDoor
open Go.Proofs.Tryz Go.RowKit
attribute [local go_sem] Oper.semAt_some
theorem qfN {t:Tk} (ho:OkT t) {ws:List Int} (hw:fitW t ws) (h:refT t ws=true):(firstT t).1=[]∧((firstT t).2=7∨(firstT t).2=8):=by
 unfold firstT;by_cases hc:(tilingsT t).2.2=0
 ·have he:(tilingsT t).1=[]:=by
   cases hT:(tilingsT t).1 with
   | nil=>rfl
   | cons x l=>exact (zgI ho hw h (qdB ho (x:=x) (by rw[hT];simp))).elim
  rw[Yz (by rw[hc];decide),he];exact⟨rfl,.inl rfl⟩
 rw[YA hc];rcases qd5 t with h|h
 ·exact absurd h hc
 rw[h];exact⟨rfl,.inr rfl⟩
def lostT (t:Tk) (k:Nat):Bool:=(List.range k).any (lostK t)
theorem zfr (t:Tk) (k:Nat):lostT t (k+1)=(lostT t k||lostK t k):=by
 unfold lostT;rw[Yl,List.any_append];simp
theorem qcS {t:Tk} {k:Nat} {c:Int} {s:List Q} (hc:t.counts[k]?=some c) (hs:t.kinds[k]?=some s):needT t (k+1)=needT t k+c*(s.length:Int):=by
 unfold needT;show sumTo _ k+t.counts.getD k 0*((t.kinds.getD k []).length:Int)=_;rw[yu,hc,yu,hs];rfl
theorem zdw {t:Tk} (ho:OkT t) {k:Nat} (hk:k≤t.counts.length):0≤needT t k∧needT t k≤k*256:=by
 unfold needT
 induction k with
 | zero=>unfold sumTo;simp
 | succ k ih =>
  obtain⟨h1,h2⟩:=ih (by omega);unfold sumTo;have hkc:k<t.counts.length:=by omega
  have hkk:k<t.kinds.length:=by rw[← ho.clen];exact hkc
  have c:=ho.cnt _ (List.getElem_mem hkc);have s:=ho.kind16 _ (List.getElem_mem hkk);rw[yu,yb hkc,yu,yb hkk];simp only[Yw];generalize t.counts[k]=c at *;generalize t.kinds[k].length=n at *;have:=Int.mul_nonneg c.1 (show (0:Int)≤n by omega);have:=Int.mul_le_mul_of_nonneg_right c.2 (show (0:Int)≤(n:Int)by omega);omega
theorem qdg {t:Tk} {ws:List Int} (w:World) (vg vk vc vf vb vw:Value) (hg:HasQ w vg t.ground) (hk:HasQQ w vk t.kinds) (hc:RI.Has w vc t.counts) (hf:RL.Has w vf t.fixed) (hb:RE.Has w vb t.below) (hw:RI.Has w vw ws) (htb:TbAt w) :
  Calls Tryz.prog 7 #[.agg #[vg,vk,vc,vf,vb],vw] w λ e w'=>e=.returned (.bool true)∧Below w.heap.size w w':=by
 obtain⟨gp,gc,rfl⟩:=hg.slice;obtain⟨kp,kc,rfl⟩:=hk.slice;obtain⟨cp,cc,rfl⟩:=hc.slice;obtain⟨fp,fc,rfl⟩:=hf.slice;obtain⟨bp,bc,rfl⟩:=hb.slice;obtain⟨wp,wc,rfl⟩:=hw.slice;have HGOOD:Hid (∀ W,Below w.heap.size w W→Calls Tryz.prog 21 #[.agg #[.slice gp t.ground.length gc,.slice kp t.kinds.length kc,.slice cp t.counts.length cc,.slice fp t.fixed.length fc,.slice bp t.below.length bc]] W λ e w'=>∃ r:Bool,e=.returned (.bool r)∧(r=true↔qaQ t∧OkT t)∧Below W.heap.size W w') :=
  yK λ W h=>zfO W _ _ _ _ _ (hg.below h) (hk.below h) (hc.below h) (hf.below h) (hb.below h)
 have HKN:Hid (∀ W,Below w.heap.size w W→Calls Tryz.prog 22 #[] W λ e w'=>e=.returned (.bool true)∧Below W.heap.size W w'):=yK λ W h=>zhO W (htb.below h);have HTK:Hid (qaQ t→∀ W,Below w.heap.size w W→Calls Tryz.prog 23 #[.agg #[.slice gp t.ground.length gc,.slice kp t.kinds.length kc,.slice cp t.counts.length cc,.slice fp t.fixed.length fc,.slice bp t.below.length bc]] W λ e w'=>∃ ug uk uc uf ub us,e=.returned (.agg #[ug,uk,uc,uf,ub])∧CopyT W w' ug uk uc uf ub us t) :=
  yK λ hs W h=>zdA hs W _ _ _ _ _ (hg.below h) (hk.below h) (hc.below h) (hf.below h) (hb.below h)
 have HTB:Hid (∀ W,Below w.heap.size w W→TbAt W):=yK λ W h=>htb.below h;have HARG:Hid (∀ W,Below w.heap.size w W→HasQ W (.slice gp t.ground.length gc) t.ground∧HasQQ W (.slice kp t.kinds.length kc) t.kinds∧RI.Has W (.slice cp t.counts.length cc) t.counts∧RI.Has W (.slice wp ws.length wc) ws):=yK λ W h=>⟨hg.below h,hk.below h,hc.below h,hw.below h⟩;have HT:=yK (yd w (.cells #[.slice gp t.ground.length gc,.slice kp t.kinds.length kc,.slice cp t.counts.length cc,.slice fp t.fixed.length fc,.slice bp t.below.length bc] 34));have HB:Hid (Below w.heap.size w (w.alloc (.cells #[.slice gp t.ground.length gc,.slice kp t.kinds.length kc,.slice cp t.counts.length cc,.slice fp t.fixed.length fc,.slice bp t.below.length bc] 34))):=yK ((yf _ w).alloc (ye _) _);have hst:(Tryz.prog.info? 34).map (·.size)=some (#[.slice gp t.ground.length gc,.slice kp t.kinds.length kc,.slice cp t.counts.length cc,.slice fp t.fixed.length fc,.slice bp t.below.length bc]:Array Value).size:=sizeTask;clear hg hk hc hf hb htb hw;generalize hpo:(λ (e:Ending) (w':World)=>e=.returned (.bool true)∧Below w.heap.size w w')=Po;have HPO:=yK hpo;clear hpo;go_enter func7,ntmps7;go_upto_region 1 with fail;revert HT HB;change _→_→Code.wp _ _ _ _ (w.alloc (.cells #[.slice gp t.ground.length gc,.slice kp t.kinds.length kc,.slice cp t.counts.length cc,.slice fp t.fixed.length fc,.slice bp t.below.length bc] 34));generalize w.alloc (.cells #[.slice gp t.ground.length gc,.slice kp t.kinds.length kc,.slice cp t.counts.length cc,.slice fp t.fixed.length fc,.slice bp t.below.length bc] 34)=w1;intro HT HB;have HBW:Hid (∀ W,Below w1.heap.size w1 W→Below w.heap.size w W):=yK λ W h=>HB.out.trans (h.mono HB.out.size);have HTT:Hid (∀ W,Below w1.heap.size w1 W→W.heap[w.heap.size]?=some (.cells #[.slice gp t.ground.length gc,.slice kp t.kinds.length kc,.slice cp t.counts.length cc,.slice fp t.fixed.length fc,.slice bp t.below.length bc] 34 (0,0))):=yK λ W h=>(h.block _ (ya.1 HT.out).1).trans HT.out;have hT:=HT.out;go_wp2_with (refine Yb rfl 34 _ rfl w.heap.size rfl 34 #[.slice gp t.ground.length gc,.slice kp t.kinds.length kc,.slice cp t.counts.length cc,.slice fp t.fixed.length fc,.slice bp t.below.length bc] (0,0) _ hT underlying34 rfl hst ?_);refine (HGOOD.out w1 HB.out).mono ?_;rintro e w2 ⟨r,rfl,hr,hb2⟩;have HR:=yK hr;have HB2:=yK hb2;clear hr hb2 hT HT HGOOD
 cases r with
 | false =>
  clear HR;go_wp2_with fail;refine (HKN.out w2 (HBW.out w2 HB2.out)).mono ?_;rintro e w3 ⟨rfl,hb3⟩;have HF:=yK ((HBW.out w2 HB2.out).trans (hb3.mono (HBW.out w2 HB2.out).size));clear hb3;go_wp2_with fail;rw[← HPO.out];exact⟨rfl,HF.out⟩
 | true =>
  obtain⟨hsh,hok⟩:=HR.out.1 rfl;by_cases h70:ws.length≤70
  case neg =>
   have hd:decide ((70:Int)<(ws.length:Int))=true:=yw (by omega);clear HR hsh hok h70;go_wp2_with fail;refine (HKN.out w2 (HBW.out w2 HB2.out)).mono ?_;rintro e w3 ⟨rfl,hb3⟩;have HF:=yK ((HBW.out w2 HB2.out).trans (hb3.mono (HBW.out w2 HB2.out).size));clear hb3;go_wp2_with fail;rw[← HPO.out];exact⟨rfl,HF.out⟩
  have hd:decide ((70:Int)<(ws.length:Int))=false:=yv (by omega);have HOK:=yK hok;have HSC:=yK (qci hsh);have HTS:=yK (HTK.out hsh);have H70:=yK h70;have HRF:Hid (∀ W0 W ug uk uc uf ub us v (ns:List Int),Below w.heap.size w W→CopyT W0 W ug uk uc uf ub us t→RI.Has W v ns→ns.length≤1000→Calls Tryz.prog 29 #[.agg #[ug,uk,uc,uf,ub],v] W λ e w'=>∃ (b:Bool) (code:Nat),e=.returned (.tuple #[.bool b,.int .i64 code])∧Below W.heap.size W w'∧(¬ fitW t ns→b=false∧code=4)∧(fitW t ns→b=refT t ns∧code=0)):=yK λ W0 W ug uk uc uf ub us v ns h hcp hv hn=>by
   obtain⟨a1,a2,a3,a4,a5,a6⟩:=hcp.has;refine (qev W _ _ _ _ _ v a1 a2 a3 a4 a5 a6 HSC.out.1 HSC.out.2 hv (by omega)).mono ?_;rintro e w' ⟨b,code,rfl,hB,_,h4,h5⟩;exact⟨b,code,rfl,hB,h4 HOK.out,h5 HOK.out⟩
  have HFS:Hid (∀ W0 W ug uk uc uf ub us,Below w.heap.size w W→CopyT W0 W ug uk uc uf ub us t→Calls Tryz.prog 15 #[.agg #[ug,uk,uc,uf,ub]] W λ e w'=>∃ p c,e=.returned (.tuple #[.slice p (firstT t).1.length c,.int .i64 (firstT t).2])∧Below W.heap.size W w'):=yK λ W0 W ug uk uc uf ub us h hcp=>by
   obtain⟨a1,a2,a3,a4,a5,a6⟩:=hcp.has;refine (zdE W _ _ _ _ _ a1 a2 a3 a4 a5 a6 HSC.out.1 HSC.out.2 (HTB.out W h)).mono ?_;rintro e w' ⟨v,code,rfl,hB,h4,_⟩;obtain⟨h5,h6⟩:=h4 HOK.out;subst h6;obtain⟨p,c,rfl⟩:=qg h5;exact⟨p,c,rfl,hB⟩
  clear HR hsh hok HTK h70;have hT2:=HTT.out w2 HB2.out;have HTS2:=yK (HTS.out w2 (HBW.out w2 HB2.out));go_wp2_with (refine Yb rfl 34 _ rfl w.heap.size rfl 34 #[.slice gp t.ground.length gc,.slice kp t.kinds.length kc,.slice cp t.counts.length cc,.slice fp t.fixed.length fc,.slice bp t.below.length bc] (0,0) _ hT2 underlying34 rfl hst ?_);refine HTS2.out.mono ?_;rintro e w3 ⟨ug,uk,uc,uf,ub,us,rfl,hcp⟩;have HB3:=yK (HB2.out.trans (hcp.old.mono HB2.out.size));obtain⟨vw,w4,hap,how,hb4⟩:=qe6 (by have:=H70.out;omega) w3 wp wc (HARG.out w3 (HBW.out w3 HB3.out)).2.2.2;have HAP:=yK hap;have HB4:=yK (HB3.out.trans (hb4.mono HB3.out.size));have HRC:=yK (HRF.out w2 w4 ug uk uc uf ub us vw ws (HBW.out w4 HB4.out) (hcp.keep hb4) (REnc.Own.has how) (by have:=H70.out;omega));clear hT2 hcp HTS2 HB2 hap how hb4 hd;go_wp2_with (first|(at_builtin;refine qap rfl _ _ 30 rfl rfl rfl HAP.out ?_));refine HRC.out.mono ?_;rintro e w5 ⟨b,code,rfl,hb5,hno,hyes⟩;have HB5:=yK (HB4.out.trans (hb5.mono HB4.out.size));clear hb5 HRC HAP HB3 HB4;by_cases hokw:fitW t ws
  case neg =>
   obtain⟨rfl,rfl⟩:=hno hokw;clear hno hyes hokw;go_wp2_with fail;refine (HKN.out w5 (HBW.out w5 HB5.out)).mono ?_;rintro e w6 ⟨rfl,hb6⟩;have HF:=yK ((HBW.out w5 HB5.out).trans (hb6.mono (HBW.out w5 HB5.out).size));clear hb6;go_wp2_with fail;rw[← HPO.out];exact⟨rfl,HF.out⟩
  obtain⟨hbr,rfl⟩:=hyes hokw;have HREF:Hid (b=true→(firstT t).1=[]∧((firstT t).2=7∨(firstT t).2=8)):=yK λ h=>qfN HOK.out hokw (by rw[← hbr];exact h);clear hno hyes hokw hbr;have hT5:=HTT.out w5 HB5.out;have HTS5:=yK (HTS.out w5 (HBW.out w5 HB5.out));go_wp2_with (refine Yb rfl 34 _ rfl w.heap.size rfl 34 #[.slice gp t.ground.length gc,.slice kp t.kinds.length kc,.slice cp t.counts.length cc,.slice fp t.fixed.length fc,.slice bp t.below.length bc] (0,0) _ hT5 underlying34 rfl hst ?_);refine HTS5.out.mono ?_;rintro e w6 ⟨g6,k6,c6,f6,b6,us6,rfl,hcp6⟩;have HB6:=yK (HB5.out.trans (hcp6.old.mono HB5.out.size));have HF6:=yK (HFS.out w5 w6 g6 k6 c6 f6 b6 us6 (HBW.out w6 HB6.out) hcp6);clear hT5 hcp6 HTS5 HB5;revert HF6 HREF;generalize firstT t=ft;obtain⟨fl,fe⟩:=ft;simp only;intro HREF HF6;go_wp2_with fail;refine HF6.out.mono ?_;rintro e w7 ⟨lp,lc,rfl,hb7⟩;have HB7:=yK (HB6.out.trans (hb7.mono HB6.out.size));clear hb7 HF6 HB6 HFS;go_upto_region 7 with fail;go_cut [64]from 51 to 64 (λ u wx=>u=.bool false∧w7=wx)
  case first =>
   cases b with
   | false =>
    go_wp2_with fail
    go_meet
    case rel=>exact⟨rfl,rfl⟩
   | true =>
    obtain⟨rfl,rfl|rfl⟩:=HREF.out rfl
    all_goals
     go_wp2_with fail
     go_meet
     case rel=>exact⟨rfl,rfl⟩
  obtain⟨rfl,rfl⟩:=hcut;clear HREF;obtain⟨iI,hiI,hzI,hsI,hbI⟩:=info_parts zcl;have hg64:t.ground.length≤64:=HOK.out.g64;have hal:Below w7.heap.size w7 (w7.alloc (.cells #[] 3)):=(yf _ w7).alloc (ye _) _;have HL0:Hid (RI.Own (w7.alloc (.cells #[] 3)) w1.heap.size (.slice (some ⟨w7.heap.size,0,none⟩) 0 0) (List.replicate 0 1)∧Below w1.heap.size w1 (w7.alloc (.cells #[] 3))):=yK ⟨⟨rfl,.inr ⟨w7.heap.size,0,#[],rfl,HB7.out.size,yd w7 _,ye _,by decide,rfl,rfl⟩⟩,HB7.out.trans (hal.mono HB7.out.size)⟩;clear hal HB7;go_wp2_with fail;revert HL0;generalize w7.alloc (.cells #[] 3)=w8;generalize w7.heap.size=g8;intro HL0;go_loopw [9,12] (λ u z wr=>∃ k:Nat,k≤t.ground.length∧z=.int .i64 k∧Hid (RI.Own wr w1.heap.size u (List.replicate k 1)∧Below w1.heap.size w1 wr)) (λ _ z _=>t.ground.length-(intOf z).toNat)
  case atStart=>exact⟨0,YC _,rfl,HL0⟩
  clear HL0;obtain⟨k,hk,rfl,HR⟩:=hrel;have hTr:=HTT.out wr HR.out.2;have c0:wr.cell? ⟨w.heap.size,0,none⟩=some (.slice gp t.ground.length gc):=by simp only[World.cell?,hTr];rfl
  clear hTr;by_cases hlt:k<t.ground.length
  case pos =>
   obtain⟨os,hos⟩:∃ os:List Int,List.replicate k 1=os:=⟨_,rfl⟩;have HOS:=yK hos;have hol:os.length=k:=(by rw[← hos,Ya]);rw[hos]at HR;obtain⟨up,uc,rfl⟩:=qg HR.out.1;have HOL:=yK hol;have HM1:Hid (os.length+1≤maxLen):=yK (by simp only[maxLen];omega);have HM2:Hid ((os.length+1)*8≤140737488355328):=yK (by omega);have HCE:=yK (zI (cs:=[.int .i64 1]) (yd wr (.cells ([.int .i64 1]:List Value).toArray 3)));have HWZ:=yK HR.out.2.size;clear hol hos;go_wp2_with (first
    | (refine qbe rfl _ rfl rfl underlying30 hiI hzI (by rw[hsI];decide) (by rw[hsI];decide) (cells:=([.int .i64 1]:List Value).toArray) (by rw[hsI];rfl) ?_)
    | (at_builtin;refine wpList_append_own_at (P:=Tryz.prog) _ rfl _ _ 30 rfl w1.heap.size 3 iI _ 1 8 underlying30 hiI hzI hsI hbI rfl (by decide) (.slice up os.length uc) os.length (RI.cells os) rfl (qf HR.out.1 ((yf _ wr).alloc (ye _) _)) ⟨wr.heap.size,0,none⟩ 1 1 [.int .i64 1] rfl rfl HCE.out (by simp[Value.oneCell']) HM1.out HM2.out (by rw[yp];have:=HWZ.out;omega) ?_;intro v' w9 hown' hgrow _ hat;obtain⟨p',c',rfl⟩:=qg hown'))
   have HBB:=yK ((HR.out.2.alloc HR.out.2.size _).grown hgrow (by rw[yp];have:=HWZ.out;omega) λ b e=>(zf HR.out.1 e).1);have HOW:Hid (RI.Own w9 w1.heap.size (.slice p' (os.length+1) c') (List.replicate (k+1) 1)):=yK (by
    have e:List.replicate (k+1) (1:Int)=os++[1]:=(by rw[List.replicate_succ',HOS.out]);rw[e];show w9.ownsRow _ _ _ _ _ _;rw[yL,show RI.cells (os++[1])=RI.cells os++[.int .i64 1]by simp[REnc.cells,RI]];exact hown')
   clear hown' hgrow hat HR;go_wp2_with fail
   go_roundw
   case rel=>exact⟨k+1,by omega,by go_num,yK ⟨HOW.out,HBB.out⟩⟩
   case measure=>simp only[intOf];omega
  obtain rfl:k=t.ground.length:=by omega
  have HONE:=yK HR.out.1;have HBO:=yK HR.out.2;obtain⟨op,oc,rfl⟩:=qg HR.out.1;rw[Ya]at HONE ⊢;clear HR hlt hk;have hk8:t.kinds.length≤8:=HOK.out.klen.2;go_wp2_with fail;clear c0;obtain⟨wo,hwo⟩:∃ z,z=wr:=⟨_,rfl⟩;subst hwo;have HEQ:Hid (t.counts.length=t.kinds.length):=yK HOK.out.clen;go_loopw [10,11,13] (λ n l z wr=>∃ k:Nat,k≤t.kinds.length∧z=.int .i64 k∧n=.int .i64 (needT t k)∧l=.bool (lostT t k)∧Hid (Below wo.heap.size wo wr)) (λ _ _ z _=>t.kinds.length-(intOf z).toNat)
  case atStart=>exact⟨0,YC _,rfl,rfl,rfl,yK (yf _ _)⟩
  obtain⟨k,hk,rfl,rfl,rfl,HR⟩:=hrel;have HBR:=yK (HBO.out.trans (HR.out.mono HBO.out.size));have hTr:=HTT.out wr HBR.out;have c0:wr.cell? ⟨w.heap.size,0,none⟩=some (.slice gp t.ground.length gc):=by simp only[World.cell?,hTr];rfl
  have c1:wr.cell? ⟨w.heap.size,1,none⟩=some (.slice kp t.kinds.length kc):=by simp only[World.cell?,hTr];rfl
  have c2:wr.cell? ⟨w.heap.size,2,none⟩=some (.slice cp t.counts.length cc):=by simp only[World.cell?,hTr];rfl
  clear hTr;by_cases hlt:k<t.kinds.length
  case pos =>
   obtain⟨s,hs⟩:∃ s,t.kinds[k]?=some s:=⟨_,yb hlt⟩;obtain⟨c,hc⟩:∃ c,t.counts[k]?=some c:=⟨_,yb (by rw[HEQ.out];exact hlt)⟩;obtain⟨hag,hak,hac,_⟩:=HARG.out wr (HBW.out wr HBR.out);obtain⟨ka,sv,rfl,hks,hsv⟩:=hak.at hs;obtain⟨sp,sc,rfl⟩:=hsv.slice;obtain⟨ca,rfl,hca⟩:=hac.at_ (by rintro e;rw[e]at hc;simp at hc);have c3:=RI.at_cell hca hc;have hcb:=HOK.out.cnt c (yg hc);have hs16:=HOK.out.kind16 s (yg hs);have hn:=zdw HOK.out (show k≤t.counts.length by rw[HEQ.out];exact hk);have hn2:=zdw HOK.out (show k+1≤t.counts.length by rw[HEQ.out];omega);rw[qcS hc hs]at hn2;have hk9:=HOK.out.klen.2;have hkc:k<t.counts.length:=(by rw[HEQ.out];exact hlt);have HNS:=yK (qcS hc hs);have HLS:=yK (zfr t k);have hpk:(piecesT t).getD k []=piecesK t.ground k s:=(by rw[yu,zaE hs];rfl);have HLK:Hid (lostK t k=(decide (0<c)&&decide ((placesL s t.ground).length=0))):=yK (by
    unfold lostK;rw[hpk,yu,hc,Yw];unfold piecesK;have e1:decide (c≠0)=decide (0<c):=(by rw[decide_eq_decide];omega);rw[e1]
    cases placesL s t.ground <;> simp)
   have hpc:placesC s t.ground=(placesL s t.ground,0):=by
    unfold placesC;have h1:=HOK.out.kinds s (yg hs);have h2:=HOK.out.ground;rw[Yz (by rw[qbT (by simp[h1,h2])];decide)]
   have hg64:t.ground.length≤64:=HOK.out.g64;have HS1:Hid (∀ W',Below wr.heap.size wr W'→Calls Tryz.prog 31 #[.slice sp s.length sc] W' λ e w'=>∃ u,e=.returned u∧OwnQ w' wr.heap.size u s∧Below wr.heap.size wr w'):=yK λ W' hW=>(zbg (by omega) _ W' (hsv.below hW)).mono λ e w' ⟨u,h1,h2,h3⟩=>⟨u,h1,zG h2 hW.size,hW.trans (h3.mono hW.size)⟩;have HS2:Hid (∀ W',Below wr.heap.size wr W'→Calls Tryz.prog 31 #[.slice gp t.ground.length gc] W' λ e w'=>∃ u,e=.returned u∧OwnQ w' wr.heap.size u t.ground∧Below W'.heap.size W' w'∧Below wr.heap.size wr w'):=yK λ W' hW=>(zbg (by omega) _ W' (hag.below hW)).mono λ e w' ⟨u,h1,h2,h3⟩=>⟨u,h1,zG h2 hW.size,h3,hW.trans (h3.mono hW.size)⟩;have HS3:Hid (∀ W' u v,OwnQ W' wr.heap.size u s→OwnQ W' wr.heap.size v t.ground→Below wr.heap.size wr W'→Calls Tryz.prog 30 #[u,v] W' λ e w'=>∃ p c,e=.returned (.tuple #[.slice p (placesL s t.ground).length c,.int .i64 0])∧Below wr.heap.size wr w'):=yK λ W' u v hu hv hW=>by
    refine (qcW s t.ground u v W' hu.has hv.has).mono ?_;rintro e w' ⟨x,rfl,h1,h2,_⟩;rw[hpc]at h1 ⊢;obtain⟨p,c,rfl⟩:=h1.slice;exact⟨p,c,rfl,hW.trans (h2.mono hW.size)⟩
   have hkeep:∀ w',Below wr.heap.size wr w'→(w'.cell? ⟨w.heap.size,0,none⟩=some (.slice gp t.ground.length gc)∧w'.cell? ⟨w.heap.size,1,none⟩=some (.slice (some ka) t.kinds.length kc)∧w'.cell? ⟨w.heap.size,2,none⟩=some (.slice (some ca) t.counts.length cc)∧w'.cell? (ka.add k)=some (.slice sp s.length sc)∧w'.cell? (ca.add k)=some (.int .i64 c))∧Below wr.heap.size wr w':=λ w' h=>by
    have hcc:∀ (a:Addr) (v:Value),wr.cell? a=some v→w'.cell? a=some v:=λ a v hv=>by
     rw[cell_of_block (h.block _ (World.block_lt_of_cell? wr a hv))];exact hv
    exact⟨⟨hcc _ _ c0,hcc _ _ c1,hcc _ _ c2,hcc _ _ hks,hcc _ _ c3⟩,h⟩
   have HKE:=yK hkeep;have HD:Hid (Below wr.heap.size wr wr.drew):=yK ((yf _ wr).drew);have hpl9:(placesL s t.ground).length≤1000000:=(by have:=zaV s t.ground;omega);clear hkeep hag hak hac hsv hca hpk hpc hs hc;revert hpl9 HS3 HLK;generalize (placesL s t.ground).length=np;intro HLK HS3 hpl9;go_upto_region 17 with fail;go_region_held3 (λ w'=>(w'.cell? ⟨w.heap.size,0,none⟩=some (.slice gp t.ground.length gc)∧w'.cell? ⟨w.heap.size,1,none⟩=some (.slice (some ka) t.kinds.length kc)∧w'.cell? ⟨w.heap.size,2,none⟩=some (.slice (some ca) t.counts.length cc)∧w'.cell? (ka.add k)=some (.slice sp s.length sc)∧w'.cell? (ca.add k)=some (.int .i64 c))∧Below wr.heap.size wr w') (first|exact HKE.out _ (by assumption)|exact HKE.out _ HD.out)
    (first
     | (go_at_call 30;refine (HS3.out wb ua ub (qf hoa hBab) hob hBb).mono ?_;rintro e w' ⟨pp,pc,rfl,hBW⟩)
     | (go_at_call 31;refine (HS1.out wr.drew HD.out).mono ?_;rintro e wa ⟨ua,rfl,hoa,hBa⟩)
     | (go_at_call 31;refine (HS2.out wa hBa).mono ?_;rintro e wb ⟨ub,rfl,hob,hBab,hBb⟩))
   obtain⟨⟨d0,d1,d2,d3,d4⟩,_⟩:=HKE.out w' hBW;have HBN:=yK (HR.out.trans (hBW.mono HR.out.size));clear c0 c1 c2 c3 hks HKE HD HS1 HS2 HS3 hoa hBa hob hBab hBb hBW HBR HR;revert HNS HLS hn hn2;generalize needT t k=n;generalize lostT t k=lo;intro hn hn2 HNS HLS;have hsl:(0:Int)≤c*(s.length:Int)∧c*(s.length:Int)≤256:=⟨Int.mul_nonneg hcb.1 (by omega),by have:=Int.mul_le_mul_of_nonneg_right hcb.2 (show (0:Int)≤(s.length:Int)by omega);omega⟩;have hw1:wrap64 (c*(s.length:Int))=c*(s.length:Int):=(by unfold wrap64;omega);have hw2:wrap64 (n+c*(s.length:Int))=n+c*(s.length:Int):=(by unfold wrap64;omega);go_upto_region 20 with fail;refine zt 14 (by kernel_rfl) (by kernel_rfl) ?_;simp only[yh,yj,yi,yl]
   repeat (go_big_quiet_step (fail))
   refine wpQuiet_nil ?_;intro nq;go_upto_region 21 with fail;have hBd:Below w'.heap.size w' (w'.drewN nq):=below_drewN _ w' nq;have HBM:=yK (HBN.out.trans (hBd.mono HBN.out.size));obtain⟨bp0,hbp⟩:∃ x,decide (0<c)=x:=⟨_,rfl⟩;obtain⟨be,hbe⟩:∃ x,decide (np=0)=x:=⟨_,rfl⟩;have hd1:decide ((0:Int)<c)=bp0:=hbp;have hd2:((np:Int)==0)=be:=by
    rw[← hbe];by_cases h:np=0
    ·subst h;rfl
    rw[yv h];simp only[Yt,ne_eq];omega
   rw[hbp,hbe]at HLK;clear hbp hbe hw1 hw2 hsl hn hn2 hBd
   cases lo with
   | true =>
    go_wp2_with fail
    go_roundw
    case rel=>exact⟨k+1,by omega,by go_num,by rw[HNS.out],by rw[HLS.out];rfl,yK HBM.out⟩
    case measure=>simp only[intOf];omega
   | false =>
    cases bp0 with
    | false =>
     go_wp2_with fail
     go_roundw
     case rel=>exact⟨k+1,by omega,by go_num,by rw[HNS.out],by rw[HLS.out,HLK.out];rfl,yK HBM.out⟩
     case measure=>simp only[intOf];omega
    | true =>
     go_wp2_with fail
     go_roundw
     case rel=>exact⟨k+1,by omega,by go_num,by rw[HNS.out],by rw[HLS.out,HLK.out];simp,yK HBM.out⟩
     case measure=>simp only[intOf];omega
  obtain rfl:k=t.kinds.length:=by omega
  have HONR:=yK (qf HONE.out HR.out);have hTr:=HTT.out wr HBR.out;have HTSr:=yK (HTS.out wr (HBW.out wr HBR.out));have HONES:Hid (refT t (List.replicate t.ground.length 1)=(lostT t t.kinds.length||decide ((t.ground.length:Int)<needT t t.kinds.length))):=yK (by
   have:=zgM HOK.out;rw[HEQ.out]at this;exact this)
  clear c0 c2 HR hlt hk HBO HONE;revert HONES;generalize needT t t.kinds.length=n;generalize lostT t t.kinds.length=lo;intro HONES;go_wp2_with (refine Yb rfl 34 _ rfl w.heap.size rfl 34 #[.slice gp t.ground.length gc,.slice kp t.kinds.length kc,.slice cp t.counts.length cc,.slice fp t.fixed.length fc,.slice bp t.below.length bc] (0,0) _ hTr underlying34 rfl hst ?_);refine HTSr.out.mono ?_;rintro e wa ⟨ga,kka,cca,fa,ba,usa,rfl,hcpa⟩;have HBA:=yK (HBR.out.trans (hcpa.old.mono HBR.out.size));have HRA:=yK (HRF.out wr wa ga kka cca fa ba usa (.slice op t.ground.length oc) (List.replicate t.ground.length 1) (HBW.out wa HBA.out) hcpa (REnc.Own.has (qf HONR.out hcpa.old)) (by rw[Ya];omega));clear hTr hcpa HTSr HONR c1;go_wp2_with fail;refine HRA.out.mono ?_;rintro e wb ⟨b2,code2,rfl,hbb,_,hyes2⟩;obtain⟨hb2,rfl⟩:=hyes2 qht;rw[HONES.out]at hb2;have HBB:=yK (HBA.out.trans (hbb.mono HBA.out.size));have hTb:=HTT.out wb HBB.out;have c0:wb.cell? ⟨w.heap.size,0,none⟩=some (.slice gp t.ground.length gc):=by simp only[World.cell?,hTb];rfl
  obtain⟨dn,hdn⟩:∃ x,decide ((t.ground.length:Int)<n)=x:=⟨_,rfl⟩;rw[hdn]at hb2;clear hbb hyes2 hTb HRA HONES
  cases lo with
  | true =>
   obtain rfl:b2=true:=(by rw[hb2];rfl);clear hb2;go_wp2_with fail;refine (HKN.out wb (HBW.out wb HBB.out)).mono ?_;rintro e w9 ⟨rfl,hbk⟩;have HF:=yK ((HBW.out wb HBB.out).trans (hbk.mono (HBW.out wb HBB.out).size));clear hbk;go_wp2_with fail;rw[← HPO.out];exact⟨rfl,HF.out⟩
  | false =>
   obtain rfl:b2=dn:=(by rw[hb2];rfl);clear hb2;have hself:(b2==b2)=true:=(by simp);go_wp2_with fail;refine (HKN.out wb (HBW.out wb HBB.out)).mono ?_;rintro e w9 ⟨rfl,hbk⟩;have HF:=yK ((HBW.out wb HBB.out).trans (hbk.mono (HBW.out wb HBB.out).size));clear hbk;go_wp2_with fail;rw[← HPO.out];exact⟨rfl,HF.out⟩
end Go.Proofs.YtiinlplgloaanaaGreatDoor
