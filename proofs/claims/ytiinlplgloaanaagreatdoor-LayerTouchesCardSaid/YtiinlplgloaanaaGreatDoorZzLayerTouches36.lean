/- Chapter 7 in the heap: the bricks of a state; the first tiling. -/
import Derived.Lib.Zigzag
import Derived.Test.YtiinlplgloaanaaGreatDoorZzLayerTouches35
set_option linter.all false
set_option maxRecDepth 100000
set_option maxHeartbeats 4000000
namespace Go.Proofs.YtiinlplgloaanaaGreatDoor
open Go.Proofs.Tryz Go.RowKit
attribute [local go_sem] Oper.semAt_some
def pcsT (t:Tk) (L:List E):List (List HP):=(piecesT t).map λ l=>l.map (hpT t.ground L)
def belT (t:Tk) (L:List E):W3:=wordsE (λ e=>decide (e∈t.below)) L
theorem aN {g:List Q} (hg:g.length<=64) (P:Q->Bool):setG P g<2 ^ 64:=yO (cy P g) (Nat.pow_le_pow_right (by decide) hg)
theorem CX {n:Nat}:∀ {l:List Nat},l.Nodup->(∀ x∈l,x<n)->l.length<=n:=by
 induction n with
 | zero=>intro l _ h;cases l with|nil=>simp|cons a l=>have:=h a (by simp);omega
 | succ n ih =>
  intro l hn h;by_cases hm:n∈l
  ·have:=ih (l:=l.erase n) (hn.erase n) λ x hx=>by
    have A:=h x (List.mem_of_mem_erase hx);have:x≠n:=λ e=>by subst e;exact(hn.not_mem_erase) hx
    omega
   rw[List.length_erase_of_mem hm]at this;omega
  have:=ih hn λ x hx=>by
   have A:=h x hx;have:x≠n:=λ e=>hm (e▸hx);omega
  omega
theorem AE {t:Tk} {s:List Pc} (hg:GoodT t s) (hin:∀ p∈s,∃ q∈t.ground,q∈p.qs):s.length<=t.ground.length:=by
 have B:=eN hg.apart hin;have A:(s.map (leastP t.ground)).Nodup:=by
  unfold List.Nodup;rw[List.pairwise_map];exact B
 have:=CX (n:=t.ground.length) A λ x hx=>by
  obtain⟨p,F,rfl⟩:=yP.1 hx;obtain⟨i,q,_,D,C,_⟩:=da (hin p F);rw[D];exact(yc.1 C).1
 simpa using this
theorem od (s:List Pc) (k:Int):manyT s k<=s.length:=Ka _ _
theorem TkOk.hits {t:Tk} {L:List E} (ok:TkOk t L) {s:List Pc} (hg:GoodT t s):∀ p∈s,∃ q∈t.ground,q∈p.qs:=λ p hp=>by
 have h1:=hg.mem p hp;obtain⟨q,hq⟩:=YF _ (ok.ne p h1);exact⟨q,ok.inG p h1 q hq,hq⟩
theorem TkOk.len64 {t:Tk} {L:List E} (ok:TkOk t L) {s:List Pc} (hg:GoodT t s):s.length<=64:=yJ (AE hg (ok.hits hg)) ok.g64
structure NxN (t:Tk) (L:List E) (s:List Pc) (S:HS) (sb bx bb:Nat) (bv:BV) (base:Nat) (W:World):Prop where
 sbx:W.heap[sb]?=some (.cells (hsVals S).toArray 108 (0,0))
 bxx:W.heap[bx]?=some (.cells #[.pointer (some ⟨bb,0,none⟩)] 94 (0,0))
 bd:BdAt W bb bv t L (pcsT t L) (belT t L)
 own:RP.Own W base S.laid (s.map (hpT t.ground L))
 tb:TbAt W
theorem NxN.below {t:Tk} {L:List E} {s:List Pc} {S:HS} {sb bx bb:Nat} {bv:BV} {base:Nat} {W W':World} (h:NxN t L s S sb bx bb bv base W) (e:Bw W W'):NxN t L s S sb bx bb bv base W' :=
 ⟨(e.block _ (ya.1 h.sbx).1).trans h.sbx,(e.block _ (ya.1 h.bxx).1).trans h.bxx,h.bd.keep e,qf h.own e,h.tb.below e⟩
def NxX (t:Tk) (L:List E) (s:List Pc) (k:Nat) (args:Array Value) (W0 W1:World):Prop :=
 ∃ (S':HS) (c:List Pc),(qB t s)[k]?=some c/\args=#[RS.val S']/\StT t.ground L c S'/\RP.Own W1 W0.heap.size S'.laid (c.map (hpT t.ground L))
theorem lD {t:Tk} {L:List E} (ok:TkOk t L) {s:List Pc} {S:HS} (hst:StT t.ground L s S) (hg:GoodT t s) {k:Nat} {l:List Pc} (hl:(piecesT t)[k]?=some l) {p:Pc} (hp:p∈l)
  {w:World} {bb:Nat} {bv:BV} (hb:BdAt w bb bv t L (pcsT t L) (belT t L)) {base:Nat} (hs:RP.Own w base S.laid (s.map (hpT t.ground L))) :
  Calls Tryz.prog 112 #[.pointer (some ⟨bb,0,none⟩),RS.val S,RP.val (hpT t.ground L p)] w λ e w' =>
   ∃ (S':HS) (b:Bool),e=.returned (.tuple #[RS.val S',.bool b])/\(b=true->putT t s p=some (s++[p])/\StT t.ground L (s++[p]) S'/\RP.Own w' w.heap.size S'.laid ((s++[p]).map (hpT t.ground L)))/\(b=false->putT t s p=none)/\Bw w w':=by
 have D:p∈(piecesT t).flatten:=ku.2 ⟨l,yg hl,hp⟩;have G:=ok.kind k l hl p hp;have C:k<t.kinds.length:=by rw[<- qX];exact(yc.1 hl).1
 obtain⟨c,F⟩:∃ c,t.counts[k]?=some c:=⟨_,yb (by rw[ok.clen];exact C)⟩;have I:k<8:=yO C ok.k8;have B:=ok.len64 hg;have A:=vd (p:=p) hst (ok.inG p D) (ok.inL p D) ok.l192 G F;refine(uM w bb bv t L (pcsT t L) (belT t L) hb (zX _ _) S (s.map (hpT t.ground L)) base hs (by rw[hst.set];exact aN ok.g64 _) (by rw[hst.bord];exact zX _ _) (by rw[hst.joint];exact zX _ _)
  (λ j=>by rw[hst.many];exact yJ (od _ _) B) (by rw[yB];exact B) (hpT t.ground L p) (aN ok.g64 _) (zX _ _) k G c F (ok.cnt k c F) I).mono ?_
 rintro e w' ⟨S',b,rfl,H,T,J,O⟩;refine⟨S',b,rfl,λ hb=>?_,λ hb=>?_,O⟩
 ·obtain⟨K,P,N,M,R⟩:=J hb;refine⟨A.1 (H.1 hb),st_snoc hst G K P N M,?_⟩;rw[Yl];exact R
 ·refine DQ λ hp'=>?_;have:=H.2 (A.2 hp');rw[hb]at this;cases this
theorem BX {n:Nat} (h:n<2 ^ 64):bits .xor .u64 IntKind.u64.max (n:Int)=((2 ^ 64-1-n:Nat):Int):=by
 have h1:=bits_xor_u64_nat (2 ^ 64-1) n (by decide) (by omega);rw[Lib.xor_ones64 n h]at h1;exact h1
theorem CE {t:Tk} {s:List Pc} {q:Q} (hf:freeT t s=some q):∃ fi:Nat,t.ground.findIdx? (λ q=>!covT s q)=some fi/\t.ground[fi]?=some q:=by
 cases h:t.ground.findIdx? (λ q=>!covT s q)with
 | none =>
  rw[List.findIdx?_eq_none_iff]at h;obtain⟨a,b⟩:=gL hf;have:=h q a;simp[b]at this
 | some i =>
  refine⟨i,rfl,?_⟩;obtain⟨A,a,b⟩:=List.findIdx?_eq_some_iff_getElem.1 h;rw[yb A];have:t.ground.find? (λ q=>!covT s q)=some t.ground[i]:=by
   rw[List.find?_eq_some_iff_getElem];exact⟨a,i,A,rfl,λ j hj=>by have:=b j hj;simpa using this⟩
  unfold freeT at hf;rw[this]at hf;exact hf
theorem Ct {g:List Q} {L:List E} (hg:g.length<=64) {p:Pc} {fi:Nat} {q:Q} (h:g[fi]?=some q) (hin:∃ q∈g,q∈p.qs):(hpT g L p).set.testBit fi=decide (q∈p.qs)/\(fi<leastH (hpT g L p)->q∉p.qs):=by
 refine⟨by unfold hpT;simp only;rw[zG,h],λ hl hq=>?_⟩;rw[dr hg hin]at hl;obtain⟨i,r,B,C,F,H⟩:=da hin;rw[C]at hl;obtain⟨G,_,D⟩:=List.findIdx?_eq_some_iff_getElem.1 B;have:=D fi hl;have A:=(yc.1 h);rw[A.2]at this;simp[hq]at this
theorem oe {n:Nat} (h:n<2 ^ 64) (i:Nat):(bits .and .u64 ((n:Int) / 2 ^ i) 1==0)=!(n.testBit i):=by
 have e:((n:Int) / 2 ^ i)=((n / 2 ^ i:Nat):Int):=by norm_cast
 have B:n / 2 ^ i<2 ^ 64:=Nat.lt_of_le_of_lt (Nat.div_le_self _ _) h;have A:=bB B (show 1<2 ^ 64 by decide);rw[e];rw[show (1:Int)=((1:Nat):Int)from rfl,A,Nat.and_one_is_mod,Nat.testBit_eq_decide_div_mod_eq];rcases (by omega:n / 2 ^ i % 2=0\/n / 2 ^ i % 2=1)with h|h <;> rw[h] <;> rfl
theorem uI {t:Tk} {L:List E} (ok:TkOk t L) {s:List Pc} {S:HS} (hst:StT t.ground L s S) (hgd:GoodT t s) {q:Q} (hf:freeT t s=some q) (sb bx bb:Nat) (bv:BV) (base:Nat) :
  IterP Tryz.prog 154 (λ y=>#[y,.pointer (some ⟨sb,0,none⟩),.pointer (some ⟨bx,0,none⟩)]) (qB t s).length (NxN t L s S sb bx bb bv base) (NxX t L s):=by
 intro l J Jx W hJ hJx hN hY h0;obtain⟨vg,vk,vc,vf,vb,qm,em,pv,E0⟩:=bv;have F:=hN 0 W (YB _) h0;obtain⟨pp,pc,B6⟩:=F.bd.pieces.slice;simp only at B6;subst B6;obtain⟨X,k,hq⟩:=CE hf;have V:S.set<2 ^ 64:=by rw[hst.set];exact aN ok.g64 _
 have E2:X<64:=yO (yc.1 hq).1 ok.g64;have M:Lib.ctz 64 (2 ^ 64-1-S.set)=X:=by rw[hst.set];exact xC ok.g64 k
 have c:∀ w,TbAt w->Calls Tryz.prog 126 #[.int .u64 (2 ^ 64-1-S.set:Nat)] w λ e w'=>e=.returned (.int .i64 X)/\w'=w:=λ w hw=>by
  have:=lU (2 ^ 64-1-S.set) (by omega) w hw;rwa [M]at this
 have K:=BX V;have E5:=yK M;clear M;have D2:IntKind.u64.signed=false:=rfl;revert c K;generalize 2 ^ 64-1-S.set=ns;intro c K;have C5:=yK c;clear c;have D:=yK ok;clear ok;have D4:=yK hst;clear hst;have D3:=yK hgd;clear hgd;have HF:=yK hf;clear hf;have HJ:=yK hJ;clear hJ;have F0:=yK hJx;clear hJx;have HN:=yK hN;clear hN;have HY:=yK hY;clear hY;have H0:=yK h0;clear h0;have E8:=yK k;clear k;have HQ:=yK hq;clear hq;have D7:=yK V;clear V;have s1:W.cell? ⟨sb,1,none⟩=some (.int .u64 S.set):=by simp[World.cell?,F.sbx,hsVals]
 have b0:W.cell? ⟨bx,0,none⟩=some (.pointer (some ⟨bb,0,none⟩)):=by simp[World.cell?,F.bxx]
 have b7:W.cell? ⟨bb,7,none⟩=some (.slice pp (pcsT t L).length pc):=by simp[World.cell?,F.bd.blk]
 have D0:=yK F;clear F;have E7:(pcsT t L).length<=8:=by unfold pcsT;rw[yB,qX];exact D.o.k8
 refine callsIn_of_wp func154 rfl trivial ?_ rfl;simp only[ntmps154,YK,yA,yN,Nat.reduceAdd,Nat.reduceSub,YS,YR,km,YV,Yj,Yf];gi_wp2_with (refine zy.2 ((C5.o _ D0.o.tb).mono ?_);rintro e w' ⟨rfl,rfl⟩);clear s1 b0 b7 K D2
 gi_loopw [20] (λ v wr=>∃ i:Nat,i<=(pcsT t L).length/\v=.int .i64 i/\Hid (J (kidsT t s q (upT (piecesT t) i 0)).length wr)) (λ v _=>(pcsT t L).length-(intOf v).toNat)
 case atStart=>exact⟨0,by omega,rfl,by rw[uS];exact H0⟩
 case round =>
  obtain⟨i,hi,rfl,T⟩:=hrel;by_cases hlt:i<(pcsT t L).length
  ·obtain⟨lp,x⟩:∃ lp,(piecesT t)[i]?=some lp:=⟨_,yb (by unfold pcsT at hlt;rwa [yB]at hlt)⟩;obtain⟨m,hm⟩:∃ m,m=lp.map (hpT t.ground L):=⟨_,rfl⟩;have A2:(pcsT t L)[i]?=some m:=(by unfold pcsT;rw[yQ,x,hm];rfl);have H:=HN.o _ wr (jY HF.o i 0) T.o;obtain⟨a,v,rfl,_,hv,C9,G⟩:=H.bd.pieces.get A2;have D9:m.length<=9223372036854775807:=by
    rcases G with⟨_,h⟩|⟨_,_,_,h1,h2,_⟩
    ·rw[h];decide
    simp only[maxLen]at h2;omega
   obtain⟨xp,xc,rfl⟩:=G.slice;have C:=yK x;clear x;have HM:=yK hm;clear hm;have C8:=yK A2;clear A2;have HV:=yK hv;clear hv;clear H G;gi_wp2_with fail;clear C9
   gi_loopw [26] (λ v wr=>∃ j:Nat,j<=m.length/\v=.int .i64 j/\Hid (J (kidsT t s q (upT (piecesT t) i j)).length wr)) (λ v _=>m.length-(intOf v).toNat)
   case atStart=>exact⟨0,by omega,rfl,T⟩
   clear T;obtain⟨j,hj,rfl,T⟩:=hrel;by_cases hjl:j<m.length
   ·obtain⟨p,hp⟩:∃ p,lp[j]?=some p:=⟨_,yb (by rw[HM.o,yB]at hjl;exact hjl)⟩;obtain⟨h,hh⟩:∃ h,h=hpT t.ground L p:=⟨_,rfl⟩;have B9:m[j]?=some h:=(by rw[HM.o,yQ,hp,hh];rfl);have H:=HN.o _ wr (jY HF.o i j) T.o;obtain⟨a',v',ea,_,A9,_,G⟩:=H.bd.pieces.get C8.o;have ev:v'=.slice xp m.length xc:=YX (A9.symm.trans HV.o);subst ev;obtain⟨xa,rfl,B4⟩:=G.at_ (by rintro e;rw[e]at hjl;simp at hjl);have D6:=zl (P:=Tryz.prog) underlying152 rfl sizeP B4 B9;have B1:=yK H;have B2:h.set<2 ^ 64:=(by rw[hh];exact aN D.o.g64 _);have B3:=yK B2;clear B2;have HP:=yK hp;clear hp;have HH:=yK hh;clear hh;have z:(Tryz.prog.info? 152).map (·.size)=some (hpVals h).toArray.size:=sizeP;have B0:(hpVals h).toArray.all (·.oneCell')=true:=(by simp[hpVals,Value.oneCell']);clear B9 A9 G B4 H ea
    gi_upto_region 7 with(first
     | (refine gP rfl 152 _ rfl rfl D6 ?_)
     | (refine zA rfl 152 _ _ rfl wr.heap.size rfl 152 _ (hpVals h).toArray rfl (yd wr _) z rfl B0 ?_;rw[World.setRow_alloc_new]))
    have hP:=yd wr (.cells (hpVals h).toArray 152);have R:Bw wr (wr.alloc (.cells (hpVals h).toArray 152)):=(yf _ wr).alloc (ye _) _;revert hP R;generalize wr.alloc (.cells (hpVals h).toArray 152)=w1;intro hP R;have B:=fb h B3.o w1 (B1.o.below R).tb;obtain⟨lh,A0⟩:∃ lh,leastH h=lh:=⟨_,rfl⟩;rw[A0]at B;have HL:=yK B;clear B;have D1:=yK A0;clear A0;have Y:=yK (Ct (p:=p) (L:=L) D.o.g64 HQ.o (by
     have C2:p∈(piecesT t).flatten:=ku.2 ⟨lp,yg C.o,yg HP.o⟩;obtain⟨r,hr⟩:=YF _ (D.o.ne p C2);exact⟨r,D.o.inG p C2 r hr,hr⟩))
    rw[<- HH.o]at Y;rw[D1.o]at Y;have B7:q∉p.qs->(kidsT t s q (upT (piecesT t) i (j+1))).length=(kidsT t s q (upT (piecesT t) i j)).length:=λ hq=>by
     rw[gZ C.o HP.o];unfold kidT;rw[Yy hq];rfl
    have C3:=yK B7;clear B7;gi_wp2_with (refine qi rfl 152 _ rfl wr.heap.size rfl 152 _ (0,0) _ hP underlying152 rfl z ?_);refine zy.2 (HL.o.mono ?_);rintro e w2 ⟨rfl,hG⟩;have C0:=(hG.below.block _ (ya.1 hP).1).trans hP;have N:Bw wr w2:=R.tm hG.below;clear hP R hG HL;by_cases hgt:X<lh
    ·have hd:decide (X<lh)=true:=by rw[yS];omega
     have n:=yK (Y.o.2 hgt);clear hgt;gi_wp2_with fail
     go_roundw
     case rel=>exact⟨j+1,by omega,by go_num,yK (by rw[C3.o n.o];exact HJ.o _ _ _ T.o N)⟩
     case measure=>simp[intOf];omega
    have hd:decide (X<lh)=false:=(by rw[decide_eq_false_iff_not];omega);have c5:w2.cell? ⟨wr.heap.size,5,none⟩=some (.int .u64 h.set):=(by simp only[World.cell?,C0];rfl);have E3:(0:Int)<=X:=(by omega);have E9:(X:Int)<=64:=(by omega);clear hgt;have O:=oe B3.o X;rw[Y.o.1]at O;by_cases hqp:q∈p.qs
    case neg =>
     rw[yv hqp,Bool.not_false]at O;have n:=yK hqp;clear hqp;gi_wp2_with fail
     go_roundw
     case rel=>exact⟨j+1,by omega,by go_num,yK (by rw[C3.o n.o];exact HJ.o _ _ _ T.o N)⟩
     case measure=>simp[intOf];omega
    rw[yw hqp,Bool.not_true]at O;have A8:=yK hqp;clear hqp;have d:=yK (B1.o.below N);have b0:w2.cell? ⟨bx,0,none⟩=some (.pointer (some ⟨bb,0,none⟩)):=(by simp[World.cell?,d.o.bxx]);have C1:=d.o.sbx;have U:=lD D.o D4.o D3.o C.o (yg HP.o) d.o.bd d.o.own;rw[<- HH.o]at U;have g:=yK U;clear U;have D5:(Tryz.prog.info? 108).map (·.size)=some (hsVals S).toArray.size:=sizeS;gi_wp2_with (first
     | (refine qi rfl 108 _ rfl sb rfl 108 _ (0,0) _ C1 underlying108 rfl D5 ?_)
     | (refine qi rfl 152 _ rfl wr.heap.size rfl 152 _ (0,0) _ C0 underlying152 rfl z ?_))
    refine zy.2 (g.o.mono ?_);rintro e w3 ⟨A,b,rfl,h1,h2,C7⟩;have B5:=N.tm C7;have H1:=yK h1;clear h1;have H2:=yK h2;clear h2;have B8:(Tryz.prog.info? 108).map (·.size)=some (hsVals A).toArray.size:=sizeS;have A4:(hsVals A).toArray.all (·.oneCell')=true:=(by simp[hsVals,Value.oneCell']);clear b0 C1 g
    gi_upto_region 9 with(refine zA rfl 108 _ _ rfl w3.heap.size rfl 108 _ (hsVals A).toArray rfl (yd w3 _) B8 rfl A4 ?_;rw[World.setRow_alloc_new])
    have hC:=yd w3 (.cells (hsVals A).toArray 108);have Z:Bw wr (w3.alloc (.cells (hsVals A).toArray 108)):=B5.alloc B5.size _;have A5:Bw w3 (w3.alloc (.cells (hsVals A).toArray 108)):=(yf _ w3).alloc (ye _) _;revert hC Z A5;generalize w3.alloc (.cells (hsVals A).toArray 108)=w4;intro hC Z A5
    cases b with
    | false =>
     have A3:Hid ((kidsT t s q (upT (piecesT t) i (j+1))).length=(kidsT t s q (upT (piecesT t) i j)).length):=yK (by
      rw[gZ C.o HP.o];unfold kidT;rw[Yz A8.o,H2.o rfl];rfl)
     gi_wp2_with fail
     go_roundw
     case rel=>exact⟨j+1,by omega,by go_num,yK (by rw[A3.o];exact HJ.o _ _ _ T.o Z)⟩
     case measure=>simp[intOf];omega
    | true =>
     obtain⟨g1,g2,g3⟩:=H1.o rfl;have I:kidT t s q p=some (s++[p]):=(by unfold kidT;rw[Yz A8.o];exact g1);have A3:Hid ((kidsT t s q (upT (piecesT t) i (j+1))).length=(kidsT t s q (upT (piecesT t) i j)).length+1):=yK (by
      rw[gZ C.o HP.o,I];rfl)
     have A1:=ri HF.o C.o HP.o I;have C6:YieldAt (FW none) 0 Tryz.prog l #[.agg (hsVals A).toArray] w4 _:=HY.o _ _ wr w4 (yc.1 A1).1 T.o Z ⟨A,s++[p],A1,rfl,g2,qP (qf g3 A5) N.size⟩;obtain⟨fn,A6,f,A7,C4,hR⟩:=C6;clear g1 g2 g3 I A1;have D8:(Instr.yield l #[.agg #[.slice A.lp A.ln A.lc,.int .u64 A.set,.int .u64 A.bord.1,.int .u64 A.bord.2.1,.int .u64 A.bord.2.2,.int .u64 A.joint.1,.int .u64 A.joint.2.1,.int .u64 A.joint.2.2,.int .i64 (A.many 0),.int .i64 (A.many 1),.int .i64 (A.many 2),.int .i64 (A.many 3),.int .i64 (A.many 4),.int .i64 (A.many 5),.int .i64 (A.many 6),.int .i64 (A.many 7)]]).run Tryz.prog w4=.ok (.round l fn A6 f A7) w4:=C4;clear C4;obtain⟨k0,k1,k2,k3,k4,k5,k6,k7,k8,k9,E4,F2,F3,E6,F1,E1⟩:=bq hC;gi_wp2;refine hR.mono ?_;rintro e W5 (⟨rfl,hJ5⟩|⟨rfl,hJx5⟩)
     ·gi_wp2
      go_roundw
      case rel=>exact⟨j+1,by omega,by go_num,yK (by rw[A3.o];exact hJ5)⟩
      case measure=>simp[intOf];omega
     gi_wp2;refine Yb (results_none rfl _ _ _) rfl ?_;exact⟨⟨_,rfl⟩,.inr hJx5⟩
   obtain rfl:j=m.length:=(by omega);gi_wp2_with fail
   go_roundw
   case rel=>exact⟨i+1,by omega,by go_num,yK (by
    have:=T.o;rw[HM.o,yB,ti C.o]at this;exact this)⟩
   case measure=>simp[intOf];omega
  obtain rfl:i=(pcsT t L).length:=by omega
  gi_wp2_with fail
  go_end0
  refine⟨⟨_,rfl⟩,.inl ?_⟩;have:=T.o;unfold pcsT at this;rw[yB,uE,fZ HF.o]at this;exact this
def sumF (t:Tk) (k:Nat):Int:=(((t.counts.zip t.kinds).take k).map λ x=>x.1*(x.2.length:Int)).sum
theorem pM {t:Tk} {k:Nat} {c:Int} {s:List Q} (hc:t.counts[k]?=some c) (hs:t.kinds[k]?=some s):sumF t (k+1)=sumF t k+c*s.length:=by
 unfold sumF;have A:(t.counts.zip t.kinds)[k]?=some (c,s):=by rw[kC];exact⟨hc,hs⟩
 rw[List.take_add_one,A,Yl,List.sum_append];simp
theorem Bs {t:Tk} (h:t.counts.length=t.kinds.length):fitsT t=decide (sumF t t.counts.length=(t.ground.length:Int)):=by
 unfold fitsT sumF;rw[kM (by rw[List.length_zip];omega)]
theorem fy {t:Tk} (h:OkT t):∀ k,k<=t.counts.length->0<=sumF t k/\sumF t k<=256*k
 | 0,_=>by simp[sumF]
 | k+1,hk=>by
  have ih:=fy h k (by omega);have hc:t.counts[k]?=some t.counts[k]:=yb (by omega);have hk2:k<t.kinds.length:=by rw[<- h.clen];omega
  have hs:t.kinds[k]?=some t.kinds[k]:=yb hk2;rw[pM hc hs];have h1:=h.cnt _ (yg hc);have h2:=h.kind16 _ (yg hs);have h3:(0:Int)<=t.counts[k]*(t.kinds[k].length:Int):=Int.mul_nonneg h1.1 (by omega);have h4:t.counts[k]*(t.kinds[k].length:Int)<=16*16:=Int.mul_le_mul h1.2 (by omega) (by omega) (by omega);omega
theorem RI.at_cell {W:World} {a:Addr} {l:List Int} (h:RI.At W a l) {i:Nat} {c:Int} (hc:l[i]?=some c):W.cell? (a.add i)=some (.int .i64 c):=by
 have:=h.at_ i c hc 0 (.int .i64 c) rfl;simpa[RI]using this
theorem HasQQ.at {W:World} {p:Option Addr} {n c:Nat} {ls:List (List Q)} (h:HasQQ W (.slice p n c) ls) {k:Nat} {l:List Q} (hk:ls[k]?=some l) :
  ∃ a x,p=some a/\W.cell? (a.add k)=some x/\HasQ W x l:=by
 rcases h with⟨_,h⟩|⟨a,c,vs,h1,_,_,h4,h5,h6⟩
 ·rw[h]at hk;simp at hk
 ·simp only[yC]at h1;obtain⟨x,A⟩:∃ u,vs[k]?=some u:=⟨_,yb (by rw[h5];exact(yc.1 hk).1)⟩;exact⟨a,x,h1.1,h4.at_ k x A,h6 k x l A hk⟩
theorem fits_any (w:World) (bb:Nat) (bv:BV) (t:Tk) (L:List E) (ps:List (List HP)) (bel:W3) (hb:BdAt w bb bv t L ps bel) (ho:OkT t) :
  Calls Tryz.prog 66 #[.pointer (some ⟨bb,0,none⟩)] w λ e w'=>e=.returned (.bool (fitsT t))/\w'=w:=by
 obtain⟨A,F,C,D,_,_,_,_,_,_⟩:=hb;obtain⟨m,x,l,n,vb,qm,em,pv,S⟩:=bv;simp only at A F C D;obtain⟨W,U,rfl⟩:=F.slice;obtain⟨f,X,rfl⟩:=C.slice;obtain⟨g,d,rfl⟩:=D.slice;have V:=yK C;clear C;have b:=yK D;clear D;have K:=yK ho;have P:=yK ho.clen;have j:t.counts.length<=8:=by rw[ho.clen];exact ho.klen.2
 have h:=ho.g64;clear ho F;have b0:w.cell? ⟨bb,0,none⟩=some (.slice W t.ground.length U):=by simp[World.cell?,A]
 have q:w.cell? ⟨bb,1,none⟩=some (.slice f t.kinds.length X):=by simp[World.cell?,A]
 have b2:w.cell? ⟨bb,2,none⟩=some (.slice g t.counts.length d):=by simp[World.cell?,A]
 clear A;rw[Bs P.o];go_enter func66,ntmps66;go_wp2_with fail;go_loopw [3,12] (λ u z wr=>∃ k:Nat,k<=t.counts.length/\u=.int .i64 (sumF t k)/\z=.int .i64 k/\wr=w) (λ _ z _=>t.counts.length-(intOf z).toNat)
 case atStart=>exact⟨0,by omega,rfl,rfl,rfl⟩
 case round =>
  obtain⟨k,Y,rfl,rfl,rfl⟩:=hrel;have hs:=fy K.o k Y;by_cases hlt:k<t.counts.length
  ·have N:k<t.kinds.length:=by rw[<- P.o];exact hlt
   obtain⟨c,H⟩:∃ c,t.counts[k]?=some c:=⟨_,yb hlt⟩;obtain⟨s,B⟩:∃ s,t.kinds[k]?=some s:=⟨_,yb N⟩;have R:=K.o.cnt _ (yg H);have h2:=K.o.kind16 _ (yg B);have G:=pM H B;have T:=fy K.o (k+1) hlt;obtain⟨v,kx,rfl,y,I⟩:=V.o.at B;obtain⟨xp,xc,rfl⟩:=I.slice;obtain⟨r,rfl,J⟩:=b.o.at_ (by rintro e;rw[e]at H;simp at H);have c0:=RI.at_cell J H;have i:(0:Int)<=c*(s.length:Int):=Int.mul_nonneg R.1 (by omega);have O:c*(s.length:Int)<=256:=by
    have:c*(s.length:Int)<=16*16:=Int.mul_le_mul R.2 (by omega) (by omega) (by omega);omega
   generalize Z:c*(s.length:Int)=p at i O G;have M:=yK G;clear G;have HP:=yK Z;clear B H J I;go_wp2_with fail
   go_roundw
   case rel=>exact⟨k+1,by omega,by rw[M.o],by go_num,trivial⟩
   case measure=>simp[intOf];omega
  obtain rfl:k=t.counts.length:=by omega
  have a:((sumF t t.counts.length)==(t.ground.length:Int))=decide (sumF t t.counts.length=(t.ground.length:Int)):=by rw[YL];simp
  go_wp2_with fail;go_ret;exact⟨qL a,rfl⟩
theorem sV {a:Act} {t:Tmp} {sb bx:Nat} (h:a.eval (.tmp t)=.func (.func 154) #[] #[.pointer (some ⟨sb,0,none⟩),.pointer (some ⟨bx,0,none⟩)]) (l:Nat) (W:World) :
  ∃ d,(resolve a.eval (rangeCall (.tmp t) l) 0).run Tryz.prog W=.ok d W/\(invoke d.target d.args).run Tryz.prog W=.ok (.enter 154 #[.func (.yield l) #[] #[],.pointer (some ⟨sb,0,none⟩),.pointer (some ⟨bx,0,none⟩)]) W:=by
 refine⟨{ target:=.fn (.func 154) #[.pointer (some ⟨sb,0,none⟩),.pointer (some ⟨bx,0,none⟩)],args:=#[.func (.yield l) #[] #[]] },?_,?_⟩
 ·simp only[resolve,h];simp[go_sem]
 ·simp[invoke,go_sem]
theorem next_any (S:HS) (bb:Nat) (w:World) :
  Calls Tryz.prog 123 #[.pointer (some ⟨bb,0,none⟩),RS.val S] w λ e w'=>∃ sb bx:Nat,e=.returned (.func (.func 154) #[] #[.pointer (some ⟨sb,0,none⟩),.pointer (some ⟨bx,0,none⟩)]) /\
   w.heap.size<=sb/\w.heap.size<=bx/\w'.heap[sb]?=some (.cells (hsVals S).toArray 108 (0,0))/\w'.heap[bx]?=some (.cells #[.pointer (some ⟨bb,0,none⟩)] 94 (0,0))/\Bw w w':=by
 show Calls _ _ #[_,.agg (hsVals S).toArray] _ _;go_enter func123,ntmps123;go_wp2_with fail;go_ret;refine⟨_,_,rfl,YE _,ye _,bL w _ _,(Below.heap_alloc _ _ _ (by simp)).trans (yd w _),((yf _ w).alloc (ye _) _).alloc (by simp) _⟩
theorem oL (p:Tmp) (u:Value) (t:Array Value):(#[p].zip #[u]).foldl (λ t (p,v)=>t.setIfInBounds p v) t=t.setIfInBounds p u:=by
 simp[Array.zip]
theorem Fr.ext {F:Nat->Prop} {W0 W W':World} (h:Fr F W0 W) {B:Nat} (e:Ext B W W') (hB:W0.heap.size<=B):Fr F W0 W':=by
 refine⟨e.os.trans h.os,e.tape.trans h.tape,e.output.trans h.output,yJ h.size e.size,λ k hk hf=>?_⟩;have A:k<W.heap.size:=yO hk h.size;rw[e.block k _ (yD A) (.inl (by omega)),<- h.block k hk hf,yD A]
theorem Fr.keeps {F:Nat->Prop} {W W':World} (h:Fr F W W') (B:Nat) (hc:∀ k,F k->∃ cs T,W.heap[k]?=some (.cells cs T (0,0))):KeepsFrom B W W' :=
 ⟨h.size,λ k o _ hk ho=>(h.block k (ya.1 hk).1 λ hf=>by
  obtain⟨cs,T,e⟩:=hc k hf;rw[e]at hk;cases hk;cases ho).trans hk⟩
theorem nK (rec:List Pc->Nat × List (List Pc)):∀ (cs:List (List Pc)) (n:Nat) (l:List (List Pc)),l.length<=(loopT rec cs n l).2.length
 | [],n,l=>ye _
 | c :: cs,n,l=>by
  unfold loopT;split
  ·simp
  have:=nK rec cs (n+(rec c).1) (l++(rec c).2);rw[yL]at this;omega
def SrI (t:Tk) (L:List E) (f:Nat) (s:List Pc) (lb base nb:Nat) (F0:Nat->Prop) (w1:World) (Ts:List (List Pc)) (k:Nat) (W:World):Prop :=
 ∃ (n:Nat) (l:List (List Pc)) (F:Nat->Prop),(n<=20000/\loopT (searchT t f) ((qB t s).drop k) n l=loopT (searchT t f) (qB t s) 1 []) /\
  TJ W t.ground L lb base F (Ts++l)/\(∀ b,F b->F0 b\/w1.heap.size<=b)/\Fr (λ b=>F0 b\/b=nb) w1 W/\W.heap[nb]?=some (.cells #[.int .i64 n] 3 (0,0))
def SrX (t:Tk) (L:List E) (f:Nat) (s:List Pc) (lb base nb:Nat) (F0:Nat->Prop) (w1:World) (Ts:List (List Pc)) (W:World):Prop :=
 ∃ (n:Nat) (l:List (List Pc)) (F:Nat->Prop),loopT (searchT t f) (qB t s) 1 []=(n,l) /\
  TJ W t.ground L lb base F (Ts++l)/\(∀ b,F b->F0 b\/w1.heap.size<=b)/\Fr (λ b=>F0 b\/b=nb) w1 W/\W.heap[nb]?=some (.cells #[.int .i64 n] 3 (0,0))
theorem SrI.ext {t:Tk} {L:List E} {f:Nat} {s:List Pc} {lb base nb:Nat} {F0:Nat->Prop} {w1:World} {Ts:List (List Pc)} {k:Nat} {W W':World} (h:SrI t L f s lb base nb F0 w1 Ts k W) {B:Nat} (e:Ext B W W') (hB:w1.heap.size<=B):SrI t L f s lb base nb F0 w1 Ts k W':=by
 obtain⟨n,l,F,C,A,D,G,H⟩:=h;exact⟨n,l,F,C,A.ext e,D,G.ext e hB,e.block _ _ H (.inr rfl)⟩
theorem SrX.ext {t:Tk} {L:List E} {f:Nat} {s:List Pc} {lb base nb:Nat} {F0:Nat->Prop} {w1:World} {Ts:List (List Pc)} {W W':World} (h:SrX t L f s lb base nb F0 w1 Ts W) {B:Nat} (e:Ext B W W') (hB:w1.heap.size<=B):SrX t L f s lb base nb F0 w1 Ts W':=by
 obtain⟨n,l,F,C,A,D,G,H⟩:=h;exact⟨n,l,F,C,A.ext e,D,G.ext e hB,e.block _ _ H (.inr rfl)⟩
def SrPost (t:Tk) (L:List E) (f:Nat) (s:List Pc) (S:HS) (lb base:Nat) (F:Nat->Prop) (Ts:List (List Pc)) (w:World) (e:Ending) (w':World):Prop :=
 e=.returned (.int .i64 (searchT t f s).1)/\∃ F':Nat->Prop,TJ w' t.ground L lb base F' (Ts++(searchT t f s).2)/\(∀ k,F' k->F k\/S.laid.ownBlock=some k\/w.heap.size<=k)/\Fr (λ k=>F k\/S.laid.ownBlock=some k) w w'
def SrHyp (t:Tk) (L:List E) (f:Nat) (W0:World) (bb lb:Nat):Prop :=
 ∀ (s:List Pc) (S:HS) (w:World) (F:Nat->Prop) (Ts:List (List Pc)),leftT t s<=f->GoodT t s->StT t.ground L s S->RP.Own w W0.heap.size S.laid (s.map (hpT t.ground L))->Bw W0 w->TJ w t.ground L lb W0.heap.size F Ts ->
  (∀ k,S.laid.ownBlock=some k->¬ F k)->Ts.length+(searchT t f s).2.length<=1000000000 ->
  Calls Tryz.prog 89 #[.pointer (some ⟨bb,0,none⟩),RS.val S,.func (.func 90) #[] #[.pointer (some ⟨lb,0,none⟩)]] w (SrPost t L f s S lb W0.heap.size F Ts w)
theorem jd (w:World) (o1 o2 o3 o4:Obj):((((w.alloc o1).alloc o2).alloc o3).alloc o4).heap[w.heap.size]?=some o1/\((((w.alloc o1).alloc o2).alloc o3).alloc o4).heap[w.heap.size+1]?=some o2 /\
  ((((w.alloc o1).alloc o2).alloc o3).alloc o4).heap[w.heap.size+1+1]?=some o3/\((((w.alloc o1).alloc o2).alloc o3).alloc o4).heap[w.heap.size+1+1+1]?=some o4/\Bw w ((((w.alloc o1).alloc o2).alloc o3).alloc o4) /\
  ((((w.alloc o1).alloc o2).alloc o3).alloc o4).heap.size=w.heap.size+4:=by
 obtain⟨C,B,D,A,_⟩:=fT (Grew.refl (((w.alloc o1).alloc o2).alloc o3));refine⟨heapO _ C,heapO _ B,heapO _ D,?_,A.alloc A.size _,by simp⟩;have:=yd (((w.alloc o1).alloc o2).alloc o3) o4;simpa using this
theorem ut (g o n:Nat):(⟨g,o,none⟩:Addr).add n=⟨g,o+n,none⟩:=by
 unfold Addr.add;split
 ·simp_all
 simp
theorem tW (b off n:Nat) (hn:n<=8) (W:World):(Instr.sliceAt 106 (.pointer (some ⟨b,off,none⟩)) none (some (.int .i64 (n:Int))) none).run Tryz.prog W=.ok (.slice (some ⟨b,off,none⟩) n 8) W:=by
 have A:Tryz.prog.arrayLen 106=8:=by kernel_rfl
 have B:Tryz.prog.elem 106=3:=by kernel_rfl
 rw[run_sliceAt_array_h W 106 ⟨b,off,none⟩ (by rw[A,B];exact underlying106) .i64 (n:Int) (by omega) (by rw[A];omega),B,A,sizeOf3];simp[Result.andThen,slicedAt,Addr.add]
theorem qu {W:World} {b:Nat} {S:HS} {T:TypeId} (hb:W.heap[b]?=some (.cells (hsVals S).toArray T (0,0))) {ca:Addr} {cc:Nat} {cs:List Int} (hf:ca.spot=none) (hc:RI.At W ca cs) (h8:cs.length<=8) :
  Calls Tryz.prog 122 #[.slice (some ⟨b,8,none⟩) cs.length 8,.slice (some ca) cs.length cc] W λ e w' =>
   e=.returned (.bool (((List.range 8).map λ i:Nat=>((S.many i:Nat):Int)).take cs.length==cs.take cs.length))/\∃ q,w'=W.drewN q:=by
 obtain⟨C,B,F⟩:=ca;simp only at hf;subst hf;refine Tryz.slices_Equal_int b 8 cs.length 8 C B cs.length cc ((List.range 8).map λ i:Nat=>((S.many i:Nat):Int)) cs W (by simpa using h8) (ye _) (by omega) (by omega) (λ j hj=>?_) (λ j hj=>?_)
 ·have D:j<8:=by simpa using hj
  simp only[World.cell?,hb];rcases (by omega:j=0\/j=1\/j=2\/j=3\/j=4\/j=5\/j=6\/j=7)with rfl|rfl|rfl|rfl|rfl|rfl|rfl|rfl <;> rfl
 ·have A:cs[j]?=some cs[j]:=yb hj;have:=RI.at_cell hc A;rw[ut]at this;rw[this,yu,A];rfl
theorem eJ {W W':World} (h:Took [] W W') (B:Nat):Below B W W':=h.below (by simp)
theorem Bb {t:Tk} {s:List Pc} {S:HS} {L:List E} (h:StT t.ground L s S) (h8:t.counts.length<=8):((((List.range 8).map λ i:Nat=>((S.many i:Nat):Int)).take t.counts.length==t.counts.take t.counts.length))=rightT t s:=by
 rw[YL,Ck,beq_iff_eq,Yc,<- List.map_take,List.take_range,Nat.min_eq_left h8];have:(λ i:Nat=>((S.many i:Nat):Int))=λ i:Nat=>((manyT s (i:Int):Nat):Int):=by funext i;rw[h.many]
 rw[this]
theorem ll {t:Tk} {L:List E} (ok:TkOk t L) (hg0:t.ground≠[]) {W0:World} {bb:Nat} {bv:BV} (hbd:BdAt W0 bb bv t L (pcsT t L) (belT t L)) (htb:TbAt W0) (hTg:1<W0.heap.size) {lb:Nat} (f:Nat) (hf64:f<=64)
  (ih:∀ f',f=f'+1->SrHyp t L f' W0 bb lb):SrHyp t L f W0 bb lb:=by
 intro s S w F Ts i hgd hst hown hB0 hTJ hnF hlen;obtain⟨vg,vk,vc,vf,vb,qm,em,pv,H5⟩:=bv;obtain⟨cp,cc,I8⟩:=hbd.counts.slice;simp only at I8;subst I8;have O:W0.heap.size<=w.heap.size:=hB0.size;have F6:∀ k,F k->k<w.heap.size/\W0.heap.size<=k:=λ k hk=>hTJ.lt hk;have F8:=hbd.keep hB0;have F4:=htb.below hB0;have J4:=yK hbd;have L2:=yK htb;have HF:=yK hTJ;clear hTJ;have M4:=yK F8;clear F8 hbd;have L8:=yK F4;clear F4 htb;have B0:=yK ok;clear ok;have E9:=yK hst;clear hst;have C8:=yK hgd;clear hgd;have A5:=yK hown;clear hown;have J7:=yK hnF;clear hnF;have B6:=yK F6;clear F6;have G0:=yK hlen;clear hlen;have L9:=yK ih;clear ih;have E4:=yK i;clear i;have G4:=yK hB0;clear hB0;have J3:=yK hg0;clear hg0;have h8:t.counts.length<=8:=by rw[B0.o.clen];exact B0.o.k8
 show Calls _ _ #[_,.agg (hsVals S).toArray,_] _ _;refine aR func89 rfl ?_;simp only[ntmps89,YK,yA,yN,Nat.reduceAdd,Nat.reduceSub,YS,YR,km,YV,Yj,Yf];gi_wp2_with fail;obtain⟨B3,B5,C5,C7,A9,C4⟩:=jd w (.cells #[.pointer (some ⟨bb,0,none⟩)] 94) (.cells (hsVals S).toArray 108) (.cells #[.func (.func 90) #[] #[.pointer (some ⟨lb,0,none⟩)]] 179) (.cells #[.int .i64 1] 3);revert B3 B5 C5 C7 A9 C4;generalize (((w.alloc (.cells #[.pointer (some ⟨bb,0,none⟩)] 94)).alloc (.cells (hsVals S).toArray 108)).alloc (.cells #[.func (.func 90) #[] #[.pointer (some ⟨lb,0,none⟩)]] 179)).alloc (.cells #[.int .i64 1] 3)=W4;intro B3 B5 C5 C7 A9 C4;have B8:=M4.o.keep A9;have A0:=sr E9.o;obtain⟨al,C2⟩:∃ al,2 ^ t.ground.length-1=al:=⟨_,rfl⟩;have R:=B8.blk;rw[C2]at A0 R;clear C2;simp only at R;have c1:∀ d:SubW W4,d.1.cell? ⟨w.heap.size+1,1,none⟩=some (.int .u64 S.set):=λ d=>by simp only[World.cell?,d.block B5];rfl
 have c2:∀ d:SubW W4,d.1.cell? ⟨w.heap.size,0,none⟩=some (.pointer (some ⟨bb,0,none⟩)):=λ d=>by simp only[World.cell?,d.block B3];rfl
 have c3:∀ d:SubW W4,d.1.cell? ⟨bb,11,none⟩=some (.int .u64 al):=λ d=>by simp only[World.cell?,d.block R];rfl
 have c4:∀ d:SubW W4,d.1.cell? ⟨bb,2,none⟩=some (.slice cp t.counts.length cc):=λ d=>by simp only[World.cell?,d.block R];rfl
 by_cases hfull:fullT t s=true
 ·have H7:=zv hfull f;have hb:((S.set:Int)==(al:Int))=true:=by
   have:=A0.2 hfull;simp[this]
  have A3:=yK H7;clear H7 A0;refine bN 7 (by kernel_rfl) (by kernel_rfl) (by kernel_rfl) ?_;simp only[yh,yj,yi,yl]
  repeat(go_big_quiet_step (fail))
  refine wpQuiet_nil ?_;intro dq;have U:=dq.block B3;have Z:=dq.block B5;have X:=dq.block C5;have Y:=dq.block C7;have E8:=dq.block R;have z:=A9.tm dq.2;have A2:w.heap.size+4<=dq.1.heap.size:=yJ (Nat.le_of_eq C4.symm) dq.2.size;have A4:=B8.keep dq.2;revert U Z X Y E8 z A2 A4;generalize dq.1=W5;intro U Z X Y E8 z A2 A4;clear B3 B5 C5 C7 A9 C4 R c1 c2 c3 c4 B8 hb;gi_wp2_with fail;have G8:t.counts≠[]:=by
   intro e;have h1:=B0.o.clen;rw[e]at h1;have hp:(piecesT t).flatten=[]:=by
    have:t.kinds=[]:=yT.1 h1.symm;unfold piecesT;rw[this];rfl
   have M2:s=[]:=by
    cases s with
    | nil=>rfl
    | cons p s=>have:=C8.o.mem p (by simp);rw[hp]at this;cases this
   have:=hfull;unfold fullT at this;rw[M2]at this
   cases hg:t.ground with
   | nil=>exact J3.o hg
   | cons q g=>rw[hg]at this;simp[covT]at this
  obtain⟨ca,rfl,I9⟩:=A4.counts.at_ G8;have G5:ca.spot=none:=A4.cflat;have I2:Hid (∀ d:SubW W5,Calls Tryz.prog 122 #[.slice (some ⟨w.heap.size+1,8,none⟩) t.counts.length 8,.slice (some ca) t.counts.length cc] d.1 λ e w'=>e=.returned (.bool (rightT t s))/\∃ d':SubW W5,w'=d'.1):=yK λ d=>by
   refine(qu (d.block Z) G5 (I9.below d.2) h8).mono ?_;rintro e w' ⟨rfl,q,rfl⟩;rw[Bb E9.o h8];exact⟨rfl,⟨⟨_,d.2.trans (Joins.below_draws _ _ q)⟩,rfl⟩⟩
  have c2:∀ d:SubW W5,d.1.cell? ⟨w.heap.size,0,none⟩=some (.pointer (some ⟨bb,0,none⟩)):=λ d=>by simp only[World.cell?,d.block U];rfl
  have c4:∀ d:SubW W5,d.1.cell? ⟨bb,2,none⟩=some (.slice (some ca) t.counts.length cc):=λ d=>by simp only[World.cell?,d.block E8];rfl
  have M5:=tW (w.heap.size+1) 8 t.counts.length h8;refine bN 14 (by kernel_rfl) (by kernel_rfl) (by kernel_rfl) ?_;simp only[yh,yj,yi,yl]
  repeat(go_big_quiet_step ((exact I2.o _)))
  refine wpQuiet_nil ?_;intro dq;clear M5;have H3:=dq.block Z;have H2:=dq.block X;have D0:=dq.block Y;have j:=z.tm dq.2;have L3:=yJ A2 dq.2.size;revert H3 H2 D0 j L3;generalize dq.1=W6;intro H3 H2 D0 j L3;clear U Z X Y E8 z A2 A4 c2 c4 I2 I9;have G1:=HF.o.below j;have J6:=yK G1;clear G1
  cases hr:rightT t s with
  | true =>
   have C6:Hid (searchT t f s=(1,[s])):=yK (by rw[A3.o,hr];rfl);have F0:(Tryz.prog.info? 108).map (·.size)=some (hsVals S).toArray.size:=sizeS;have d2:W6.cell? ⟨w.heap.size+1+1,0,none⟩=some (.func (.func 90) #[] #[.pointer (some ⟨lb,0,none⟩)]):=(by simp[World.cell?,H2]);have I3:s≠[]:=by
    rintro rfl;have:=hfull;unfold fullT at this
    cases hg:t.ground with
    | nil=>exact J3.o hg
    | cons q g=>rw[hg]at this;simp[covT]at this
   have L4:=Cn B0.o.g64 J6.o E9.o (qf A5.o j) J7.o (L8.o.below j) hTg C8.o.apart (B0.o.hits C8.o) I3 (B0.o.len64 C8.o) (by have:=G0.o;rw[C6.o]at this;simp at this;omega) (yJ O j.size);have J5:=yK L4;clear L4;gi_wp2_with (refine qi rfl 108 _ rfl (w.heap.size+1) rfl 108 _ (0,0) _ H3 underlying108 rfl F0 ?_);refine zy.2 (J5.o.mono ?_);rintro e W7 ⟨⟨v,rfl⟩,F',hT7,E1,hFr⟩;have h3:W7.heap[w.heap.size+1+1+1]?=some (.cells #[.int .i64 1] 3 (0,0)):=hFr.get D0 (by
    rintro (h|h)
    ·have:=(B6.o _ h).1;omega
    have:=(qg A5.o h).2.1;omega)
   have c3:W7.cell? ⟨w.heap.size+1+1+1,0,none⟩=some (.int .i64 1):=(by simp[World.cell?,h3]);have f3:W7.frozen? ⟨w.heap.size+1+1+1,0,none⟩=false:=frozen_of_row W7 _ 0 _ _ h3;have M0:=yK hT7;clear hT7;have D5:=yK E1;clear E1;have L5:=yK hFr;clear hFr;clear d2 J5;gi_wp2_with fail;have A:Boxed W7 (w.heap.size+1+1+1) 3 (.int .i64 1):=h3;rw[qG A];refine⟨[],rfl,by simp,by simp,λ w' ht=>⟨_,bg rfl isAgg3 _ _ (w.heap.size+1+1+1) _ rfl (qY A ht (by simp)),?_⟩⟩;refine⟨by rw[C6.o];rfl,F',?_,λ k hk=>?_,?_⟩
   ·rw[C6.o];exact M0.o.below (eJ ht _)
   ·rcases D5.o k hk with h|h|h
    ·exact .inl h
    ·exact .inr (.inl h)
    exact .inr (.inr (yJ j.size h))
   have h1:Fr (λ k=>F k\/S.laid.ownBlock=some k) w W6:=Fr.of_below j;exact(h1.trans L5.o λ b _ h=>h).trans (Fr.of_below (F:=λ k=>F k\/S.laid.ownBlock=some k) (eJ ht _)) λ b _ h=>h
  | false =>
   have C6:Hid (searchT t f s=(1,[])):=yK (by rw[A3.o,hr];rfl);have c3:W6.cell? ⟨w.heap.size+1+1+1,0,none⟩=some (.int .i64 1):=(by simp[World.cell?,D0]);have f3:W6.frozen? ⟨w.heap.size+1+1+1,0,none⟩=false:=frozen_of_row W6 _ 0 _ _ D0;gi_wp2_with fail;have A:Boxed W6 (w.heap.size+1+1+1) 3 (.int .i64 1):=D0;rw[qG A];refine⟨[],rfl,by simp,by simp,λ w' ht=>⟨_,bg rfl isAgg3 _ _ (w.heap.size+1+1+1) _ rfl (qY A ht (by simp)),?_⟩⟩;refine⟨by rw[C6.o];rfl,F,?_,λ k hk=>.inl hk,?_⟩
   ·rw[C6.o,List.append_nil];exact J6.o.below (eJ ht _)
   have h1:Fr (λ k=>F k\/S.laid.ownBlock=some k) w W6:=Fr.of_below j;exact h1.trans (Fr.of_below (F:=λ k=>F k\/S.laid.ownBlock=some k) (eJ ht _)) λ b _ h=>h
 ·have C9:fullT t s=false:=by simpa using hfull
  clear hfull;obtain⟨f',rfl⟩:∃ f',f=f'+1:=⟨f-1,by have:=si C9;have:=E4.o;omega⟩;have A3:=yK (sO C9 f');have hb:((S.set:Int)==(al:Int))=false:=by
   have:¬ S.set=al:=λ e=>by rw[A0.1 e]at C9;cases C9
   simp only[Ys,ne_eq];omega
  obtain⟨q,hq⟩:=mH C9;have HQ:=yK hq;clear hq C9 A0;refine bN 7 (by kernel_rfl) (by kernel_rfl) (by kernel_rfl) ?_;simp only[yh,yj,yi,yl]
  repeat(go_big_quiet_step (fail))
  refine wpQuiet_nil ?_;intro dq;have U:=dq.block B3;have Z:=dq.block B5;have X:=dq.block C5;have Y:=dq.block C7;have z:=A9.tm dq.2;have A2:w.heap.size+4<=dq.1.heap.size:=yJ (Nat.le_of_eq C4.symm) dq.2.size;revert U Z X Y z A2;generalize dq.1=W5;intro U Z X Y z A2;clear B3 B5 C5 C7 A9 C4 R c1 c2 c3 c4 B8 hb;have d0:W5.cell? ⟨w.heap.size,0,none⟩=some (.pointer (some ⟨bb,0,none⟩)):=by simp[World.cell?,U]
  have F0:(Tryz.prog.info? 108).map (·.size)=some (hsVals S).toArray.size:=sizeS;gi_wp2_with (refine qi rfl 108 _ rfl (w.heap.size+1) rfl 108 _ (0,0) _ Z underlying108 rfl F0 ?_);refine zy.2 ((next_any S bb W5).mono ?_);rintro e w1 ⟨sb,bx,rfl,N0,N2,E7,J8,C3⟩;have M1:=(C3.block _ (ya.1 U).1).trans U;have L6:=(C3.block _ (ya.1 X).1).trans X;have M7:=(C3.block _ (ya.1 Y).1).trans Y;have V:=z.tm C3;have N4:=yJ A2 C3.size;have M9:=(ya.1 E7).1;have N1:=(ya.1 J8).1;clear U Z X Y z C3 d0 F0;have J0:=yK (HF.o.below V);gi_wp2_with fail;have I1:∀ b,(F b\/b=w.heap.size+1+1+1)->W0.heap.size<=b:=λ b hb=>hb.elim (λ hb=>(B6.o b hb).2) (λ e=>by omega);have B9:∀ b,w.heap.size<=b->b≠w.heap.size+1+1+1->¬ (F b\/b=w.heap.size+1+1+1):=λ b hb G8 hf=>hf.elim (λ hf=>by have:=(B6.o b hf).1;omega) G8;have J9:∀ k W,SrI t L f' s lb W0.heap.size (w.heap.size+1+1+1) F w1 Ts k W->NxN t L s S sb bx bb ⟨vg,vk,.slice cp t.counts.length cc,vf,vb,qm,em,pv,H5⟩ W0.heap.size W:=by
   rintro k W ⟨n,l,F',_,_,_,B,_⟩;have E6:Below W0.heap.size w1 W:=B.below (yJ O V.size) I1;have I0:Bw W0 W:=(G4.o.trans (V.mono O)).trans E6;refine⟨B.get E7 (B9 _ (by omega) (by omega)),B.get J8 (B9 _ (by omega) (by omega)),J4.o.keep I0,zk (qf A5.o V) λ k e=>?_,L2.o.below I0⟩;exact B.block k (yO (qg A5.o e).2.1 V.size) λ h=>h.elim (J7.o k e) (λ e'=>by have:=(qg A5.o e).2.1;omega)
  have M3:=yK J9;clear J9;refine rE (ro:=none) (gf:=154) (mk:=λ y=>#[y,.pointer (some ⟨sb,0,none⟩),.pointer (some ⟨bx,0,none⟩)]) (n:=(qB t s).length) (N:=NxN t L s S sb bx bb ⟨vg,vk,.slice cp t.counts.length cc,vf,vb,qm,em,pv,H5⟩ W0.heap.size) (Xp:=NxX t L s) ?hro ?hg
   (uI B0.o E9.o C8.o HQ.o sb bx bb _ W0.heap.size) ?hps (SrI t L f' s lb W0.heap.size (w.heap.size+1+1+1) F w1 Ts) (λ c W=>c=.exit 0/\SrX t L f' s lb W0.heap.size (w.heap.size+1+1+1) F w1 Ts W) ?hI ?hIx ?h0 ?hN ?hround ?hdone ?hstop
  case hro=>intro l0 h;cases h
  case hg=>exact sV rfl
  case hps =>
   rintro k x Wa Wb ⟨S',c,_,rfl,_⟩;rfl
  case hI=>exact λ k W W' h e=>h.ext e (ye _)
  case hIx=>exact λ c W W' h e=>⟨h.1,h.2.ext e (ye _)⟩
  case h0=>exact⟨1,[],F,⟨by omega,by rw[yl]⟩,by rw[List.append_nil];exact J0.o,λ b hb=>.inl hb,Fr.refl _ _,M7⟩
  case hN=>exact λ k W _ h=>M3.o k W h
  case hround =>
   intro l k x Wk W hk hIk hBk hXp hIW hl hlr;clear hIW;obtain⟨S',c,hc,rfl,F1,D2⟩:=hXp;obtain⟨n,ls,F',⟨hn,D1⟩,E2,E1,D4,B4⟩:=hIk;have M6:=yK (λ (b:Nat) (hb:F' b)=>E2.lt hb);have G3:=yK (E2.below hBk);clear E2;have F5:=yK (D4.trans (Fr.of_below (F:=λ b=>F b\/b=w.heap.size+1+1+1) hBk) λ b _ h=>h);have M8:=D4.size;clear D4;have F3:=(hBk.block _ (ya.1 B4).1).trans B4;have B2:=yK D1;clear D1;have HC:=yK hc;clear hc;have I6:=yK F1;clear F1;have D8:=yK D2;clear D2;have D5:=yK E1;clear E1;have I5:=hBk.size;clear B4 hBk;have F7:(Tryz.prog.info? 108).map (·.size)=some (hsVals S').toArray.size:=sizeS;have H1:(hsVals S').toArray.all (·.oneCell')=true:=(by simp[hsVals,Value.oneCell']);simp only[oL,yr,yF,yE];gi_wp2_with (refine zA rfl 108 _ _ rfl W.heap.size rfl 108 _ (hsVals S').toArray rfl (yd W _) F7 rfl H1 ?_;rw[World.setRow_alloc_new]);refine⟨λ W2=>TJ W2 t.ground L lb W0.heap.size F' (Ts++ls)/\Fr (λ b=>F b\/b=w.heap.size+1+1+1) w1 W2/\W2.heap[w.heap.size+1+1+1]?=some (.cells #[.int .i64 n] 3 (0,0))/\W2.heap[W.heap.size]?=some (.cells (hsVals S').toArray 108 (0,0))/\RP.Own W2 Wk.heap.size S'.laid (c.map (hpT t.ground L)),
    λ Wa Wb ⟨a,b,d,e,g⟩ ex=>⟨a.ext ex,b.ext ex (ye _),ex.block _ _ d (.inr rfl),ex.block _ _ e (.inr rfl),Stab.owns _ _ _ _ _ _ _ _ _ g ex⟩,⟨by simp,λ k o' _ hk _=>heapO _ hk⟩,?_,?_⟩
   ·have C2:Bw W (W.alloc (.cells (hsVals S').toArray 108)):=(yf _ W).alloc (ye _) _;exact⟨G3.o.below C2,F5.o.trans (Fr.of_below (F:=λ b=>F b\/b=w.heap.size+1+1+1) C2) λ b _ h=>h,heapO _ F3,yd W _,qf D8.o C2⟩
   rintro W2 ⟨hT2,hFr2,hnb2,hcb2,hown2⟩ hlr2;clear G3 F5 F3 D8 hlr;obtain⟨WC,G6⟩:∃ WC,W.heap.size=WC:=⟨_,rfl⟩;rw[G6]at hcb2;rw[G6]at I5;rw[G6];have H6:=hFr2.get M1 (B9 _ (ye _) (by omega));have L0:=hFr2.get L6 (B9 _ (by omega) (by omega));gi_wp2_with fail;have H8:TJ W2.drew t.ground L lb W0.heap.size F' (Ts++ls):=hT2.below ((yf _ W2).drew);have G7:c∈qB t s:=yg HC.o;have i:=DE G7;have I4:=BJ C8.o G7;have F9:(ls++(searchT t f' c).2).length<=(loopT (searchT t f') (qB t s) 1 []).2.length:=by
    rw[<- B2.o,fO HC.o];split
    ·exact ye _
    exact nK _ _ _ _
   have D3:(Ts++ls).length+(searchT t f' c).2.length<=1000000000:=by
    have h1:=G0.o;rw[A3.o]at h1;rw[yL]at F9 ⊢;omega
   have B7:=L9.o f' rfl c S' W2.drew F' (Ts++ls) (by have:=E4.o;omega) I4 I6.o (qP (qf hown2 ((yf _ W2).drew)) (by have:=G4.o.size;omega))
    (by
     have h1:Below W0.heap.size w1 W2:=hFr2.below (yJ O V.size) I1;exact((G4.o.trans (V.mono O)).trans h1).trans ((yf _ W2).drew))
    H8 (λ b e hf=>by
     have h1:=(qg hown2 e).1;have h2:=(M6.o b hf).1;omega) D3
   have E7:=gI t f' c;obtain⟨r,hr⟩:∃ r,(searchT t f' c).1=r:=⟨_,rfl⟩;unfold SrPost at B7;rw[hr]at B7 E7;have H9:=yK B7;clear B7;have L7:=yK hT2;clear hT2 H8;have M:=yK hFr2;clear hFr2;have B1:=yK hown2;clear hown2;have HR:=yK hr;clear hr;have E0:Hid (∀ b,S'.laid.ownBlock=some b->Wk.heap.size<=b/\b<W2.heap.size):=yK λ b e=>⟨(qg B1.o e).1,(qg B1.o e).2.1⟩;have F2:¬ (F' (w.heap.size+1+1+1)\/S'.laid.ownBlock=some (w.heap.size+1+1+1)):=by
    rintro (h|h)
    ·rcases D5.o _ h with h|h
     ·have:=(B6.o _ h).1;omega
     omega
    have:=(E0.o _ h).1;omega
   have A8:=yK F2;clear F2;clear F9 D3 i I4 G7;refine CV 46 (by kernel_rfl) (by kernel_rfl) (by kernel_rfl) rfl (CallJ 4 6 (λ|0=>some (.int .i64 n)|1=>some (.pointer (some ⟨bb,0,none⟩))|2=>some (RS.val S')|3=>some (.func (.func 90) #[] #[.pointer (some ⟨lb,0,none⟩)])|4=>some (.int .i64 r)|5=>some (.int .i64 (n+r))|_=>none)
    (λ W=>W=W2.drew) (λ W=>∃ C:Nat->Prop,TJ W t.ground L lb W0.heap.size C (Ts++ls++(searchT t f' c).2)/\(∀ k,C k->F' k\/S'.laid.ownBlock=some k\/W2.drew.heap.size<=k)/\Fr (λ k=>F' k\/S'.laid.ownBlock=some k) W2.drew W)
    (λ W=>∃ W',(∃ C:Nat->Prop,TJ W' t.ground L lb W0.heap.size C (Ts++ls++(searchT t f' c).2)/\(∀ k,C k->F' k\/S'.laid.ownBlock=some k\/W2.drew.heap.size<=k)/\Fr (λ k=>F' k\/S'.laid.ownBlock=some k) W2.drew W')/\W=W'.setCell ⟨w.heap.size+1+1+1,0,none⟩ (.int .i64 (n+r)))) (CallJ.start (Pre:=λ W=>W=W2.drew) (W:=W2.drew) rfl _) ?_ ?_
   ·refine⟨?_,?_,?_,?_,?_,?_,?_,trivial⟩
    ·intro L b W vals hL hD hC K hJ;have e:b.eval (.tmp 6)=.pointer (some ⟨w.heap.size+1+1+1,0,none⟩):=(K.was 6 (by kernel_rfl)).trans rfl;have n6:L 6=false:=qC hC hL (by decide) (by kernel_rfl);have G9:W.cell? ⟨w.heap.size+1+1+1,0,none⟩=some (.int .i64 n):=by
      cases h4:L 4 with
      | false=>rw[hJ.pre h4];simp only[World.cell?];rw[show W2.drew.heap=W2.heap from rfl,hnb2];rfl
      | true =>
       obtain⟨C,_,_,B⟩:=hJ.post h4 n6;have:=B.get (k:=w.heap.size+1+1+1) (o:=.cells #[.int .i64 n] 3 (0,0)) hnb2 A8.o;simp[World.cell?,this]
     refine lu_v (I:=Instr.loadAt 3 (b.eval (.tmp 6))) rfl ?_ (hJ.other (by decide) rfl);rw[e];exact qh isAgg3 G9
    ·intro L b W vals hL hD hC K hJ;have e:b.eval (.tmp 3)=.pointer (some ⟨w.heap.size,0,none⟩):=(K.was 3 (by kernel_rfl)).trans rfl;have n4:L 4=false:=qC hC hL (by decide) (by kernel_rfl);refine lu_v (I:=Instr.loadAt 94 (b.eval (.tmp 3))) rfl ?_ (hJ.other (by decide) rfl);rw[e];exact qh isAgg94 (by rw[hJ.pre n4];simp only[World.cell?];rw[show W2.drew.heap=W2.heap from rfl,H6];rfl)
    ·intro L b W vals hL hD hC K hJ;have e:b.eval (.tmp 7)=.pointer (some ⟨WC,0,none⟩):=(K.was 7 (by kernel_rfl)).trans rfl;have n4:L 4=false:=qC hC hL (by decide) (by kernel_rfl);refine lu_v (I:=Instr.loadAt 108 (b.eval (.tmp 7))) rfl ?_ (hJ.other (by decide) rfl);rw[e,hJ.pre n4];have:=run_loadVar_row (P:=Tryz.prog) W2.drew WC 108 108 (hsVals S').toArray (0,0) _ hcb2 underlying108 rfl F7;simp only[Instr.loadAt,Instr.sureAddr,yG,yH,yz,this,REnc.val];rfl
    ·intro L b W vals hL hD hC K hJ;have e:b.eval (.tmp 5)=.pointer (some ⟨w.heap.size+1+1,0,none⟩):=(K.was 5 (by kernel_rfl)).trans rfl;have n4:L 4=false:=qC hC hL (by decide) (by kernel_rfl);refine lu_v (I:=Instr.loadAt 179 (b.eval (.tmp 5))) rfl ?_ (hJ.other (by decide) rfl);rw[e];exact qh isAgg179 (by rw[hJ.pre n4];simp only[World.cell?];rw[show W2.drew.heap=W2.heap from rfl,L0];rfl)
    ·intro L b W vals hL hD hC K hJ;have n5:L 5=false:=qC hC hL (by decide) (by kernel_rfl);have n6:L 6=false:=qC hC n5 (by decide) (by kernel_rfl);obtain⟨e1,_⟩:=K.val 1 38 (by kernel_rfl);obtain⟨e2,_⟩:=K.val 2 39 (by kernel_rfl);obtain⟨e3,_⟩:=K.val 3 40 (by kernel_rfl);have f1:=hJ.pure_ 1 _ rfl (hD 1 (by kernel_rfl));have f2:=hJ.pure_ 2 _ rfl (hD 2 (by kernel_rfl));have f3:=hJ.pure_ 3 _ rfl (hD 3 (by kernel_rfl));have ew:=hJ.pre hL;refine zS (args:=#[.pointer (some ⟨bb,0,none⟩),RS.val S',.func (.func 90) #[] #[.pointer (some ⟨lb,0,none⟩)]]) rfl (by simp only[Yt,yM,Yh,e1,f1,e2,f2,e3,f3]) (enters_of func89 (by kernel_rfl) rfl) ?_;rw[ew];refine H9.o.mono ?_;rintro e' w' ⟨rfl,hp⟩;exact⟨_,rfl,hJ.call (by decide) n6 rfl hp⟩
    ·intro L b W vals hL hD hC K hJ;obtain⟨e1,_⟩:=K.val 0 37 (by kernel_rfl);obtain⟨e2,_⟩:=K.val 4 41 (by kernel_rfl);have f1:=hJ.pure_ 0 _ rfl (hD 0 (by kernel_rfl));have f2:=hJ.pure_ 4 _ rfl (hD 4 (by kernel_rfl));exact By rfl (e1.trans f1) (e2.trans f2) (by rw[IntKind.wrap_i64];omega) (hJ.other (by decide) rfl)
    intro L b W vals hL hD hC K hJ;have e:b.eval (.tmp 6)=.pointer (some ⟨w.heap.size+1+1+1,0,none⟩):=(K.was 6 (by kernel_rfl)).trans rfl;obtain⟨e1,_⟩:=K.val 5 42 (by kernel_rfl);have f1:=hJ.pure_ 5 _ rfl (hD 5 (by kernel_rfl));have h4:L 4=true:=hC 5 4 (by decide) (hD 5 (by kernel_rfl)) (by kernel_rfl);obtain⟨C,q1,q2,B⟩:=hJ.post h4 hL;have hg:=B.get (k:=w.heap.size+1+1+1) (o:=.cells #[.int .i64 n] 3 (0,0)) hnb2 A8.o;exact dS rfl e (e1.trans f1) (cP isAgg3 hg rfl sizeOf3 rfl) (hJ.store h4 rfl ⟨W,⟨C,q1,q2,B⟩,rfl⟩)
   intro L1 vals W hL hJ;obtain⟨W',⟨C,q1,q2,B⟩,rfl⟩:=hJ.fin (hL 6 (by decide));have v0:=hJ.pure_ 0 _ rfl (hL 0 (by decide));have v1:=hJ.pure_ 1 _ rfl (hL 1 (by decide));have v2:=hJ.pure_ 2 _ rfl (hL 2 (by decide));have v3:=hJ.pure_ 3 _ rfl (hL 3 (by decide));have v4:=hJ.pure_ 4 _ rfl (hL 4 (by decide));have v5:=hJ.pure_ 5 _ rfl (hL 5 (by decide));clear hJ hL;simp only[yA,yN,Yk,YD,Yj,Yf,yM,Yh,putAll,Act.put,yr,yF,yE,v0,v1,v2,v3,v4,v5];have hg:=B.get (k:=w.heap.size+1+1+1) (o:=.cells #[.int .i64 n] 3 (0,0)) hnb2 A8.o;have E6:Boxed W' (w.heap.size+1+1+1) 3 (.int .i64 n):=hg;have A:=E6.set (.int .i64 (n+r));have C0:∀ k,k≠w.heap.size+1+1+1->(W'.setCell ⟨w.heap.size+1+1+1,0,none⟩ (.int .i64 (n+r))).heap[k]?=W'.heap[k]?:=λ k hk=>yq _ _ _ _ hk;have G:=Below.setCell (yf (w.heap.size+1+1+1) W') (ye _) (Value.int .i64 (n+r)) (p:=⟨w.heap.size+1+1+1,0,none⟩);have J2:TJ (W'.setCell ⟨w.heap.size+1+1+1,0,none⟩ (.int .i64 (n+r))) t.ground L lb W0.heap.size C (Ts++ls++(searchT t f' c).2):=q1.move λ k hk=>C0 k λ e=>by
    subst e;rcases q2 _ hk with h|h|h
    ·exact A8.o (.inl h)
    ·exact A8.o (.inr h)
    have h1:=M.o.size;have h2:W2.heap.size<=w.heap.size+1+1+1:=h;omega
   have J1:∀ b,C b->F b\/w1.heap.size<=b:=λ b hb=>by
    rcases q2 b hb with h|h|h
    ·exact D5.o b h
    ·exact .inr (yJ M8 (E0.o b h).1)
    have h1:=M.o.size;have h2:W2.heap.size<=b:=h;exact .inr (by omega)
   have G2:Fr (λ b=>F b\/b=w.heap.size+1+1+1) w1 (W'.setCell ⟨w.heap.size+1+1+1,0,none⟩ (.int .i64 (n+r))):=by
    have hz:=M.o.size;refine⟨G.os.trans (B.os.trans M.o.os),G.tape.trans (B.tape.trans M.o.tape),G.output.trans (B.output.trans M.o.output),yJ hz (yJ B.size G.size),λ k hk hf=>?_⟩;rw[C0 k λ e=>hf (.inr e),B.block k (show k<W2.heap.size by omega) λ h=>?_]
    ·exact M.o.block k hk hf
    rcases h with h|h
    ·rcases D5.o k h with h|h
     ·exact hf (.inl h)
     omega
    have:=(E0.o k h).1;omega
   have D7:KeepsFrom w1.heap.size W2 (W'.setCell ⟨w.heap.size+1+1+1,0,none⟩ (.int .i64 (n+r))):=by
    have k1:KeepsFrom w1.heap.size W2.drew W':=B.keeps _ λ k h=>by
     rcases h with h|h
     ·obtain⟨_,cs,T,e⟩:=L7.o.cells h;exact⟨cs,T,e⟩
     obtain⟨_,_,N3,e⟩:=qg B1.o h;exact⟨_,_,e⟩
    refine⟨yJ k1.size G.size,λ k o hk hko ho=>?_⟩;rw[C0 k λ e=>by subst e;rw[hnb2]at hko;cases hko;cases ho];exact k1.same k o hk hko ho
   have E5:=yK J2;clear J2 q1 q2;have I7:=yK J1;clear J1;have C1:=yK G2;clear G2;have m:=yK D7;clear D7;clear hg E6 G B C0;revert A E5 C1 m;generalize W'.setCell ⟨w.heap.size+1+1+1,0,none⟩ (.int .i64 (n+r))=W3;intro A E5 C1 m;have c3:=A.cell;by_cases hgt:20000<n+r
   ·have hd:decide ((20000:Int)<(n:Int)+r)=true:=by rw[yS];omega
    gi_wp2_with fail;refine⟨m.o,rfl,n+r,ls++(searchT t f' c).2,C,?_,by rw[<- kw];exact E5.o,I7.o,C1.o,by rw[Ke];exact A⟩;rw[<- B2.o,fO HC.o,HR.o,Yz hgt]
   have hd:decide ((20000:Int)<(n:Int)+r)=false:=(by rw[decide_eq_false_iff_not];omega);gi_wp2_with fail;refine⟨m.o,n+r,ls++(searchT t f' c).2,C,⟨by omega,?_⟩,by rw[<- kw];exact E5.o,I7.o,C1.o,by rw[Ke];exact A⟩;rw[<- B2.o,fO HC.o,HR.o,Yy hgt]
  case hdone =>
   intro ds W hM hIn;obtain⟨D,hD,rfl,hK⟩:=hM;obtain⟨n,ls,F',⟨_,H⟩,A7,E3,A6,B4⟩:=hIn;rw[kN]at H;replace H:loopT (searchT t f') (qB t s) 1 []=(n,ls):=H.symm;have A:Boxed W (w.heap.size+1+1+1) 3 (.int .i64 n):=B4;have c3:=A.cell;have f3:=A.frozen;have HT:=yK A7;clear A7;have H0:=yK E3;clear E3;have J:=yK A6;clear A6;have A1:=yK H;clear H;gi_wp2_with fail;rw[qG A];have D6:w.heap.size+1+1+1≠D:=(by omega);refine⟨[D],rfl,by simp,by simpa using hK,λ w' ht=>⟨_,bg rfl isAgg3 _ _ (w.heap.size+1+1+1) _ rfl (qY A ht (by simpa using D6)),?_⟩⟩;have D9:∀ k,k≠D->w'.heap[k]?=W.heap[k]?:=λ k hk=>ht.block k (by simpa using hk);have H4:∀ k cs T,W.heap[k]?=some (.cells cs T (0,0))->k≠D:=λ k cs T hc e=>by
    have:=hK;rw[<- e,hc]at this;cases this
   refine⟨by rw[A3.o,A1.o],F',?_,λ k hk=>?_,?_⟩
   ·rw[A3.o,A1.o];exact HT.o.move λ k hk=>D9 k (by obtain⟨_,cs,T,hc⟩:=HT.o.cells hk;exact H4 k cs T hc)
   ·rcases H0.o k hk with h|h
    ·exact .inl h
    exact .inr (.inr (yJ V.size h))
   have h1:Fr (λ k=>F k\/S.laid.ownBlock=some k) w w1:=Fr.of_below V;have h2:Fr (λ b=>F b\/b=w.heap.size+1+1+1) w1 w':=⟨ht.os.trans J.o.os,ht.tape.trans J.o.tape,ht.output.trans J.o.output,yJ J.o.size (Nat.le_of_eq ht.size.symm),λ k hk hf=>(D9 k (by omega)).trans (J.o.block k hk hf)⟩;exact h1.trans h2 λ b hb h=>h.elim .inl (λ e=>by omega)
  rintro ds c W hM ⟨rfl,hX⟩;obtain⟨D,hD,rfl,hK⟩:=hM;obtain⟨n,ls,F',H,A7,E3,A6,B4⟩:=hX;have A:Boxed W (w.heap.size+1+1+1) 3 (.int .i64 n):=B4;have c3:=A.cell;have f3:=A.frozen;have HT:=yK A7;clear A7;have H0:=yK E3;clear E3;have J:=yK A6;clear A6;have A1:=yK H;clear H;gi_wp2_with fail;rw[qG A];have D6:w.heap.size+1+1+1≠D:=by omega
  refine⟨[D],rfl,by simp,by simpa using hK,λ w' ht=>⟨_,bg rfl isAgg3 _ _ (w.heap.size+1+1+1) _ rfl (qY A ht (by simpa using D6)),?_⟩⟩;have D9:∀ k,k≠D->w'.heap[k]?=W.heap[k]?:=λ k hk=>ht.block k (by simpa using hk);have H4:∀ k cs T,W.heap[k]?=some (.cells cs T (0,0))->k≠D:=λ k cs T hc e=>by
   have:=hK;rw[<- e,hc]at this;cases this
  refine⟨by rw[A3.o,A1.o],F',?_,λ k hk=>?_,?_⟩
  ·rw[A3.o,A1.o];exact HT.o.move λ k hk=>D9 k (by obtain⟨_,cs,T,hc⟩:=HT.o.cells hk;exact H4 k cs T hc)
  ·rcases H0.o k hk with h|h
   ·exact .inl h
   exact .inr (.inr (yJ V.size h))
  have h1:Fr (λ k=>F k\/S.laid.ownBlock=some k) w w1:=Fr.of_below V;have h2:Fr (λ b=>F b\/b=w.heap.size+1+1+1) w1 w':=⟨ht.os.trans J.o.os,ht.tape.trans J.o.tape,ht.output.trans J.o.output,yJ J.o.size (Nat.le_of_eq ht.size.symm),λ k hk hf=>(D9 k (by omega)).trans (J.o.block k hk hf)⟩;exact h1.trans h2 λ b hb h=>h.elim .inl (λ e=>by omega)
theorem oN {t:Tk} {L:List E} (ok:TkOk t L) (hg0:t.ground≠[]) {W0:World} {bb:Nat} {bv:BV} (hbd:BdAt W0 bb bv t L (pcsT t L) (belT t L)) (htb:TbAt W0) (hTg:1<W0.heap.size) {lb:Nat}:∀ f,f<=64->SrHyp t L f W0 bb lb
 | 0,h=>ll ok hg0 hbd htb hTg 0 h (λ f' e=>by omega)
 | f+1,h=>ll ok hg0 hbd htb hTg (f+1) h (λ f' e=>by
   obtain rfl:f=f':=(by omega);exact oN ok hg0 hbd htb hTg f (by omega))
def RootPost (t:Tk) (L:List E) (w:World) (e:Ending) (w':World):Prop :=
 ∃ (S:HS) (b:Bool),e=.returned (.tuple #[RS.val S,.bool b])/\(b=true->∃ s,rootT t=some s/\StT t.ground L s S/\RP.Own w' w.heap.size S.laid (s.map (hpT t.ground L))/\GoodT t s)/\(b=false->rootT t=none)/\Bw w w'
theorem cr {α:Type} (g:List α):setG (λ _=>false) g=0:=eV.2 λ _ _=>rfl
def zeroS:HS:=⟨none,0,0,0,(0,0,0),(0,0,0),λ _=>0⟩
theorem nj (g:List Q) (L:List E):StT g L [] zeroS:=by
 have h:∀ l:List E,wordsE (λ _=>false) l=(0,0,0):=λ l=>by unfold wordsE;simp only[cr]
 refine⟨?_,?_,?_,λ k=>by simp[zeroS,manyT]⟩
 ·show 0=_;rw[<- cr g];exact aO λ q _=>by simp[covT]
 ·show (0,0,0)=_;rw[<- h L];exact ae λ e _=>by simp[bordT]
 show (0,0,0)=_;rw[<- h L];exact ae λ e _=>by simp[jointT]
def TsAt (W:World) (g:List Q) (L:List E) (base:Nat) (v:Value) (Ts:List (List Pc)):Prop :=
 ∃ Ss:List HS,RS.Own W base v Ss/\Ss.length=Ts.length/\∀ (i:Nat) (S:HS) (T:List Pc),Ss[i]?=some S->Ts[i]?=some T->StT g L T S/\RP.Own W base S.laid (T.map (hpT g L))
theorem TsAt.below {W W':World} {g:List Q} {L:List E} {base:Nat} {v:Value} {Ts:List (List Pc)} (h:TsAt W g L base v Ts) (e:Bw W W'):TsAt W' g L base v Ts:=by
 obtain⟨D,B,C,A⟩:=h;exact⟨D,qf B e,C,λ i S T hS hT=>⟨(A i S T hS hT).1,qf (A i S T hS hT).2 e⟩⟩
theorem xS {g:List Q} {L:List E} {s u:List Pc} {S:HS} (h:StT g L s S) (hp:s.Perm u):StT g L u S:=by
 refine⟨?_,?_,?_,λ k=>?_⟩
 ·rw[h.set];exact aO λ q _=>by unfold covT;exact hp.any_eq
 ·rw[h.bord];exact ae λ e _=>by unfold bordT;exact hp.any_eq
 ·rw[h.joint];exact ae λ e _=>by unfold jointT;rw[(hp.filter _).length_eq]
 rw[h.many];unfold manyT;rw[(hp.filter _).length_eq]
theorem eY {fn:Func} {p q r:Tmp} {T:TypeId} (h:fn.results=#[.cell p T,.tmp q,.tmp r]) (hT:∀ w,(isAgg T).run Tryz.prog w=.ok false w) (tmps:Array Value) (w:World) (b:Nat) (v y z:Value) (hp:tmps.getD p undef=.pointer (some ⟨b,0,none⟩)) (hb:Boxed w b T v)
  (hq:tmps.getD q undef=y) (hr:tmps.getD r undef=z):(results fn tmps).run Tryz.prog w=.ok (.tuple #[v,y,z]) w:=by
 have A:tmps[p]?.getD undef=.pointer (some ⟨b,0,none⟩):=by simpa using hp
 have B:tmps[q]?.getD undef=y:=by simpa using hq
 have C:tmps[r]?.getD undef=z:=by simpa using hr
 have D:=hb.cell;simp[results,h,A,B,C,asAddr,loadVar,hT,load,Sem.run,D,yG,Result.andThen]
theorem dX {t:Tk} {L:List E} (ho:OkT t) (ok:TkOk t L) (w:World) (bb:Nat) (bv:BV) (hbd:BdAt w bb bv t L (pcsT t L) (belT t L)) (htb:TbAt w)
  (hroot:∀ W,BdAt W bb bv t L (pcsT t L) (belT t L)->Bw w W->Calls Tryz.prog 65 #[.pointer (some ⟨bb,0,none⟩)] W (RootPost t L W)) :
  Calls Tryz.prog 38 #[.pointer (some ⟨bb,0,none⟩)] w λ e w'=>∃ v,e=.returned (.tuple #[v,.int .i64 (tilingsT t).2.1,.int .i64 (tilingsT t).2.2])/\TsAt w' t.ground L w.heap.size v (tilingsT t).1/\Bw w w':=by
 have r:t.ground≠[]:=(qj ho.ground).2.1;have c:=yK hbd;clear hbd;have j:=yK htb;clear htb;have HR:=yK hroot;clear hroot;have HO:=yK ho;clear ho;have l:=yK ok;clear ok;have B0:=yK r;clear r;have J:=yd w (.cells #[.slice none 0 0] 96);have G:Bw w (w.alloc (.cells #[.slice none 0 0] 96)):=(yf _ w).alloc (ye _) _;have K:(w.alloc (.cells #[.slice none 0 0] 96)).heap.size=w.heap.size+1:=yp _ _;go_enter func38,ntmps38;go_wp2_with fail;revert J G K;generalize w.alloc (.cells #[.slice none 0 0] 96)=w1;intro J G K;refine(HR.o w1 (c.o.keep G) G).mono ?_;rintro e w2 ⟨S,b,rfl,h1,h2,R⟩;have y:=(R.block _ (ya.1 J).1).trans J;have Z:=G.trans (R.mono (by omega));have A9:=R.size;rw[K]at A9;have H1:=yK h1;clear h1;have H2:=yK h2;clear h2;have X:=yK K;clear K;clear J G R;have A0:(Tryz.prog.info? 108).map (·.size)=some (hsVals S).toArray.size:=sizeS;have A3:(hsVals S).toArray.all (·.oneCell')=true:=by simp[hsVals,Value.oneCell']
 go_upto_region 2 with(refine wpList_store_row rfl 108 _ _ rfl w2.heap.size rfl 108 _ (hsVals S).toArray rfl (yd w2 _) A0 rfl A3 ?_;rw[World.setRow_alloc_new]);have hC:=yd w2 (.cells (hsVals S).toArray 108);have H:=heapO (.cells (hsVals S).toArray 108) y;have A:Bw w (w2.alloc (.cells (hsVals S).toArray 108)):=Z.alloc Z.size _;have P:Bw w2 (w2.alloc (.cells (hsVals S).toArray 108)):=(yf _ w2).alloc (ye _) _;clear y Z;revert hC H A P;generalize w2.alloc (.cells (hsVals S).toArray 108)=w3;intro hC H A P;have B:Boxed w3 w.heap.size 96 (.slice none 0 0):=H;have c3:=B.cell;have f3:=B.frozen
 cases b with
 | false =>
  have g:Hid (tilingsT t=([],0,0)):=yK (by unfold tilingsT;rw[H2.o rfl]);go_wp2_with fail;rw[qG B];refine Yb (eY rfl isAgg96 _ _ w.heap.size (.slice none 0 0) (.int .i64 0) (.int .i64 0) rfl B rfl rfl) rfl ?_;rw[g.o];exact⟨_,rfl,⟨[],RS.own_nil _ _,rfl,λ i S T h=>by simp at h⟩,A⟩
 | true =>
  obtain⟨s,z,A1,V,p⟩:=H1.o rfl;have d:=yK z;clear z;have B2:=yK A1;clear A1;have M:=yK (qf V P);clear V;have A8:=yK p;clear p;have F:=yK (fits_any w3 bb bv t L _ _ (c.o.keep A) HO.o)
  cases hf:fitsT t with
  | false =>
   have g:Hid (tilingsT t=([],0,0)):=yK (by unfold tilingsT;rw[d.o];simp only[hf,Yn,if_false]);rw[hf]at F;go_wp2_with (refine F.o.mono ?_;rintro e w' ⟨rfl,rfl⟩);rw[qG B];refine Yb (eY rfl isAgg96 _ _ w.heap.size (.slice none 0 0) (.int .i64 0) (.int .i64 0) rfl B rfl rfl) rfl ?_;rw[g.o];exact⟨_,rfl,⟨[],RS.own_nil _ _,rfl,λ i S T h=>by simp at h⟩,A⟩
  | true =>
   rw[hf]at F;have B3:=l.o.g64;have B4:=ff t t.ground.length s;have A5:=gI t t.ground.length s;obtain⟨Y,N⟩:∃ Y,(searchT t t.ground.length s).1=Y:=⟨_,rfl⟩;rw[N]at B4 A5;have x:TJ w3 t.ground L w.heap.size w.heap.size (λ k=>k=w.heap.size) []:=⟨.slice none 0 0,[],H,RS.own_nil _ _,rfl,λ i S T h=>(by simp at h),rfl,λ k h=>(by cases h),λ S h=>(by cases h),λ k (hk:k=w.heap.size)=>⟨Nat.le_of_eq hk.symm,#[.slice none 0 0],96,by subst hk;exact H⟩⟩;have f:∀ k,S.laid.ownBlock=some k->¬ k=w.heap.size:=λ k hk e=>by
    have:=(qg M.o hk).1;have:=X.o;omega
   have O:=oN l.o B0.o c.o j.o j.o.lt (lb:=w.heap.size) t.ground.length B3 s S w3 (λ k=>k=w.heap.size) [] (by unfold leftT;exact Ka _ _) A8.o B2.o (qP M.o (by have:=X.o;omega)) A x f (by simp only[yN];omega);unfold SrPost at O;rw[N]at O;have m:=yK O;clear O;have A4:=yK N;clear N;have B5:=yK f;clear f;clear x;go_wp2_with (first
    | (refine F.o.mono ?_;rintro e w' ⟨rfl,rfl⟩)
    | (refine Ya rfl 108 _ rfl w2.heap.size rfl 108 _ (0,0) _ hC underlying108 rfl A0 ?_))
   refine m.o.mono ?_;rintro e w4 ⟨rfl,F',hT,B1,q⟩;obtain⟨v,Ss,hv,C,D,U,_⟩:=hT;rw[Yj]at D;have A2:Bw w w4:=A.trans (q.below A.size λ k hk=>hk.elim (λ e=>Nat.le_of_eq e.symm) λ e=>by
    have:=(qg M.o e).1;have:=X.o;omega)
   obtain⟨vp,vc,rfl⟩:=zf C;have I:Boxed w4 w.heap.size 96 (.slice vp Ss.length vc):=hv;have c4:=I.cell;have f4:=I.frozen;have A7:Hid (TsAt w4 t.ground L w.heap.size (.slice vp Ss.length vc) ((searchT t t.ground.length s).2.map (sortP t.ground))):=yK (by
    refine⟨Ss,C,by rw[yB];exact D,λ i S' T' hS hT'=>?_⟩;rw[yQ]at hT';obtain⟨T,hT,rfl⟩:=Option.map_eq_some_iff.1 hT';obtain⟨a,b⟩:=U i S' T hS (by rw[Yj];exact hT);exact⟨xS a (bA t.ground T).symm,b⟩)
   have n:=yK A2;clear A2;clear B c3 f3 hC H A P hv C U B1 q m D;by_cases hgt:20000<Y
   ·have hd:decide ((20000:Int)<(Y:Int))=true:=by rw[yS];omega
    have g:Hid (tilingsT t=([],0,8)):=yK (by unfold tilingsT;rw[d.o];simp only[hf,if_true];rw[A4.o,Yz hgt]);go_wp2_with fail;have A6:=I.set (.slice none 0 0);refine Yb (eY rfl isAgg96 _ _ w.heap.size (.slice none 0 0) (.int .i64 0) (.int .i64 8) rfl A6 rfl rfl) rfl ?_;rw[g.o];exact⟨_,rfl,⟨[],RS.own_nil _ _,rfl,λ i S T h=>by simp at h⟩,n.o.setCell (ye _) _⟩
   have hd:decide ((20000:Int)<(Y:Int))=false:=(by rw[decide_eq_false_iff_not];omega);have g:Hid (tilingsT t=((searchT t t.ground.length s).2.map (sortP t.ground),Y,0)):=yK (by unfold tilingsT;rw[d.o];simp only[hf,if_true];rw[A4.o,Yy hgt]);go_wp2_with fail;rw[qG I];refine Yb (eY rfl isAgg96 _ _ w.heap.size (.slice vp Ss.length vc) (.int .i64 Y) (.int .i64 0) rfl I rfl rfl) rfl ?_;rw[g.o];exact⟨_,rfl,A7.o,n.o⟩
theorem io {W:World} {g:Nat} {p:HP} {T:TypeId} (h:W.heap[g]?=some (.cells (hpVals p).toArray T (0,0))) :
  W.cell? ⟨g,0,none⟩=some (.int .i64 p.ld.kind)/\W.cell? ⟨g,1,none⟩=some (.bool p.ld.m)/\W.cell? ⟨g,2,none⟩=some (.int .i64 p.ld.t)/\W.cell? ⟨g,3,none⟩=some (.int .i64 p.ld.x)/\W.cell? ⟨g,4,none⟩=some (.int .i64 p.ld.y):=by
 refine⟨?_,?_,?_,?_,?_⟩ <;> (simp only[World.cell?,h];rfl)
theorem infoLd:(Tryz.prog.info? 50).map (λ i=>(i.zero,i.size,i.bytes))=some (some (.agg #[.int .i64 0,.bool false,.int .i64 0,.int .i64 0,.int .i64 0]),5,40):=by kernel_rfl
theorem zn {α:Type} {l:List α} {k:Nat} {x:α} (h:l[k]?=some x):l.take (k+1)=l.take k++[x]:=by rw[List.take_add_one,h];rfl
theorem fI (S:HS) (hs:List HP) (w:World) (h:RP.Has w S.laid hs) (hl:hs.length<=1000000) :
  Calls Tryz.prog 76 #[RS.val S] w λ e w'=>∃ v,e=.returned v/\RL.Own w' w.heap.size v (hs.map (·.ld))/\Bw w w':=by
 have q:=yd w (.cells (hsVals S).toArray 108);have L:Bw w (w.alloc (.cells (hsVals S).toArray 108)):=(yf _ w).alloc (ye _) _;have I:S.ln=hs.length:=by
  obtain⟨p,c,e⟩:=h.slice;unfold HS.laid at e;simp only[yC]at e;exact e.2.1
 have HP:=yK (h.below L);clear h;have b:(w.alloc (.cells (hsVals S).toArray 108)).cell? ⟨w.heap.size,0,none⟩=some (.slice S.lp hs.length S.lc):=by rw[(bq q).1,I]
 unfold HS.laid at HP;rw[I]at HP;clear I;show Calls _ _ #[.agg (hsVals S).toArray] _ _;go_enter func76,ntmps76;go_wp2_with fail;revert HP b L;clear q;generalize w.alloc (.cells (hsVals S).toArray 108)=W1;generalize S.lp=lp;generalize S.lc=lc;intro L HP b;go_wp2_with fail;clear b;go_loopw [2,8] (λ u z wr=>∃ k:Nat,k<=hs.length/\z=.int .i64 k/\Hid (RL.Own wr W1.heap.size u ((hs.take k).map (·.ld))/\Bw W1 wr)) (λ _ z _=>hs.length-(intOf z).toNat)
 case atStart=>exact⟨0,by omega,rfl,yK ⟨RL.own_nil _ _,yf _ _⟩⟩
 case round =>
  obtain⟨k,hk,rfl,K⟩:=hrel;by_cases hlt:k<hs.length
  ·obtain⟨p,f⟩:∃ p,hs[k]?=some p:=⟨_,yb hlt⟩;obtain⟨xa,rfl,M⟩:=(HP.o.below K.o.2).at_ (by rintro e;rw[e]at hlt;simp at hlt);have n:=zl (P:=Tryz.prog) underlying152 rfl sizeP M f;have g:=yK f;clear f;have a:(Tryz.prog.info? 152).map (·.size)=some (hpVals p).toArray.size:=sizeP;have N:(hpVals p).toArray.all (·.oneCell')=true:=(by simp[hpVals,Value.oneCell']);clear M;go_upto_region 4 with(first
    | (refine qo rfl 152 _ rfl rfl n ?_)
    | (refine wpList_store_row rfl 152 _ _ rfl wr.heap.size rfl 152 _ (hpVals p).toArray rfl (yd wr _) a rfl N ?_;rw[World.setRow_alloc_new]))
   have R:=yd wr (.cells (hpVals p).toArray 152);have D:Bw wr (wr.alloc (.cells (hpVals p).toArray 152)):=(yf _ wr).alloc (ye _) _;have H:(wr.alloc (.cells (hpVals p).toArray 152)).heap.size=wr.heap.size+1:=yp _ _;revert R D H;generalize wr.alloc (.cells (hpVals p).toArray 152)=w1;intro R D H;obtain⟨k0,x,k2,k3,k4⟩:=io R;clear R;have A:=qf K.o.1 D;have J:=K.o.2.tm D;obtain⟨l,F⟩:∃ l,(hs.take k).map (·.ld)=l:=⟨_,rfl⟩;rw[F]at A;have O:l.length=k:=(by rw[<- F,yB,Ye];omega);have s:=yK O;have U:=yK F;clear F;obtain⟨r,Y,d,Z,T⟩:=info_parts infoLd;have m:Hid (l.length+1<=maxLen):=yK (by simp only[maxLen];omega);have i:Hid ((l.length+1)*40<=140737488355328):=yK (by omega);have C:=qf A ((yf _ w1).alloc (ye _) (.cells (ldVals p.ld).toArray 50));have G:=yK C;clear A C;have B:=zD (yd w1 (.cells (ldVals p.ld).toArray 50));have W:=yK B;clear B;have V:W1.heap.size<=w1.heap.size:=J.size;have X:=yK J;clear J;clear D H K O;go_wp2_with (first
    | (at_builtin;refine wpList_append_own _ rfl _ _ 31 rfl W1.heap.size 50 r _ 5 40 underlying31 Y d Z T rfl (by decide) _ l.length (RL.cells l) rfl G.o ⟨w1.heap.size,0,none⟩ 1 1 (ldVals p.ld) rfl rfl W.o (RL.one p.ld) m.o i.o (by rw[yp];omega) ?_;intro y w2 hown' hgrow _;obtain⟨t,c',rfl⟩:=zf hown'))
   go_roundw
   case rel=>
    refine⟨k+1,by omega,by go_num,yK ⟨?_,?_⟩⟩
    ·rw[zn g.o,Yl,U.o];exact RL.own_snoc hown'
    exact(X.o.alloc V _).grown hgrow (by rw[yp];omega) λ j hj=>(G.o.lt j hj).1
   case measure=>simp[intOf];omega
  obtain rfl:k=hs.length:=by omega
  have A:=K.o.1;rw[Yc]at A;have G:=yK A;clear A;go_wp2_with fail;go_ret;exact⟨_,rfl,qP G.o L.size,L.tm K.o.2⟩
