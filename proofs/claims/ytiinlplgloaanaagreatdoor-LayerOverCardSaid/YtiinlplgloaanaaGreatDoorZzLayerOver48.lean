/- The helper known of chapter 7's laws answers true. -/
import Derived.Test.YtiinlplgloaanaaGreatDoorZzLayerOver47
set_option linter.all false
set_option maxRecDepth 100000
set_option maxHeartbeats 16000000
namespace Go.Proofs.YtiinlplgloaanaaGreatDoor
open Go.Proofs.Tryz Go.RowKit
attribute [local go_sem] Oper.semAt_some
theorem zgG {t:Tk} (w:World) (vg vk vc vf vb:Value) (hg:HasQ w vg t.ground) (hk:HasQQ w vk t.kinds) (hc:RI.Has w vc t.counts) (hcf:flatV vc) (hf:RL.Has w vf t.fixed) (hb:RE.Has w vb t.below) (hcl:t.counts.length<=1000) (hbl:t.below.length<=1000000) (htb:TbAt w) :
  Calls Tryz.prog 11 #[.agg #[vg,vk,vc,vf,vb]] w (qdS t w):=by
 obtain⟨gp,gc,rfl⟩:=hg.slice;obtain⟨kp,kc,rfl⟩:=hk.slice;obtain⟨cp,cc,rfl⟩:=hc.slice;obtain⟨fp,fc,rfl⟩:=hf.slice;obtain⟨bp,bc,rfl⟩:=hb.slice;have I4:∀ W,Below w.heap.size w W->Calls Tryz.prog 13 #[.agg #[.slice gp t.ground.length gc,.slice kp t.kinds.length kc,.slice cp t.counts.length cc,.slice fp t.fixed.length fc,.slice bp t.below.length bc]] W (CkPost t W) :=
  λ W h=>qau W _ _ _ _ _ (hg.below h) (hk.below h) (hc.below h) (hf.below h) (hb.below h) hcl hbl
 have I8:∀ W,Below w.heap.size w W->OkT t->Calls Tryz.prog 37 #[.agg #[.slice gp t.ground.length gc,.slice kp t.kinds.length kc,.slice cp t.counts.length cc,.slice fp t.fixed.length fc,.slice bp t.below.length bc]] W λ e w'=>∃ (bb:Nat) (bv:BV) (L:List E),e=.returned (.pointer (some ⟨bb,0,none⟩))/\W.heap.size<=bb/\BdAt w' bb bv t L (pcsT t L) (belT t L)/\LOk t.ground L/\Below W.heap.size W w' :=
  λ W h ho=>zcs ho W _ _ _ _ _ (hg.below h) (hk.below h) (hc.below h) hcf (hf.below h) (hb.below h)
 have H8:∀ s,rootT t=some s->GoodT t s:=λ s hs=>za2 hs;have F5:∀ W bb bv L,Below w.heap.size w W->OkT t->LOk t.ground L->BdAt W bb bv t L (pcsT t L) (belT t L)->Calls Tryz.prog 38 #[.pointer (some ⟨bb,0,none⟩)] W λ e w'=>∃ v,e=.returned (.tuple #[v,.int .i64 (tilingsT t).2.1,.int .i64 (tilingsT t).2.2])/\TsAt w' t.ground L W.heap.size v (tilingsT t).1/\Below W.heap.size W w' :=
  λ W bb bv L h ho hl A2=>qaN ho (qR ho hl) W bb bv A2 (htb.below h) λ W' E5 _=>zba (qR ho hl) W' bb bv E5
 have H5:=yK I4;clear I4;have D2:=yK I8;clear I8;have E9:=yK H8;clear H8;have E6:=yK F5;clear F5 hg hk hc hf hb htb hcf;generalize F2:qdS t w=Po;have E3:=yK F2;clear F2;have J5:=@run_makeMap Tryz.prog;refine qab func11 rfl ?_;simp only[ntmps11,List.size_toArray,yA,yN,Nat.reduceAdd,Nat.reduceSub,Array.replicate_succ,Array.replicate_zero,List.push_toArray,List.append_toArray,Yk,Yg];gi_wp2_with fail;have hT:=yd w (.cells #[.slice gp t.ground.length gc,.slice kp t.kinds.length kc,.slice cp t.counts.length cc,.slice fp t.fixed.length fc,.slice bp t.below.length bc] 34);have hB:Below w.heap.size w (w.alloc (.cells #[.slice gp t.ground.length gc,.slice kp t.kinds.length kc,.slice cp t.counts.length cc,.slice fp t.fixed.length fc,.slice bp t.below.length bc] 34)):=(yf _ w).alloc (ye _) _;revert hT hB;generalize w.alloc (.cells #[.slice gp t.ground.length gc,.slice kp t.kinds.length kc,.slice cp t.counts.length cc,.slice fp t.fixed.length fc,.slice bp t.below.length bc] 34)=w1;intro hT hB;have HB:=yK hB;clear hB;have F0:=(ya.1 hT).1;refine zy.2 ((H5.o w1 HB.o).mono ?_);rintro e w2 ⟨L4,rfl,h0,h2,D4⟩;have D9:=(D4.block _ F0).trans hT;have D5:=yK (HB.o.tm D4);clear D4 HB F0;have F:∀ j,w2.cell? ⟨w.heap.size,j,none⟩=(#[.slice gp t.ground.length gc,.slice kp t.kinds.length kc,.slice cp t.counts.length cc,.slice fp t.fixed.length fc,.slice bp t.below.length bc]:Array Value)[j]?:=λ j=>by simp only[World.cell?,D9];simp
 have c0:=F 0;have c1:=F 1;have c2:=F 2;have c3:=F 3;have c4:=F 4;simp at c0 c1 c2 c3 c4;clear F hT H5;have HO:=yK h0;clear h0;rcases h2 with rfl|rfl
 ·have ho:=HO.o.1 rfl;have HL:=yK (D2.o w2 D5.o ho);have HA:=yK λ W bb bv L h=>E6.o W bb bv L h ho;have H:=yK ho;clear ho D2 E6 D9 HO;gi_wp2_with fail;refine zy.2 (HL.o.mono ?_);rintro e w3 ⟨bb,bv,L,rfl,J4,A2,A1,I7⟩;have I3:=yK (D5.o.tm I7);clear I7 HL;have G1:=yK (HA.o w3 bb bv L I3.o A1 A2);have H4:=yK A2;have C3:=yK A1;clear HA A2 A1 c0 c1 c2 c3 c4 J4;gi_wp2_with fail;refine zy.2 (G1.o.mono ?_);rintro e w4 ⟨v,rfl,H6,E4⟩;have H1:=yK (H4.o.keep E4);have C7:=yK (I3.o.tm E4);clear E4 G1 H4;have A5:=yK H6;clear H6;by_cases hcode:(tilingsT t).2.2=0
  ·obtain⟨vp,I6,rfl⟩:=A5.o.slice;have C6:Hid (∀ T∈(tilingsT t).1,T.length<=64/\∀ p∈T,0<=p.ld.kind/\p.ld.kind<100):=yK λ T hT=>⟨zbr (qR H.o C3.o) hT E9.o,zez (qR H.o C3.o) H.o hT E9.o⟩;have A6:(tilingsT t).1.length<=20000:=(zaz t).1;have C8:Hid (countT t=((tilingsT t).1.length,unlikeT t.ground (tilingsT t).1,(tilingsT t).2.1,0)):=yK (by unfold countT;rw[YA hcode]);rw[hcode];revert A5 C6 A6 C8;generalize (tilingsT t).1=Ts;generalize (tilingsT t).2.1=nd;intro A5 C6 A6 C8;have G9:=yK A6;clear A6 hcode;gi_wp2_with fail;have A8:=H.o.g64;have F7:Stab (w4.alloc (.cells #[.slice none 0 0] 99)).heap.size (ctR w4 (waysT t.ground) 0 0):=zb8 (by simp) _ _ _;refine zff (ro:=none) (gf:=39) (mk:=λ y=>#[.pointer (some ⟨bb,0,none⟩),y]) (n:=(waysT t.ground).length) (N:=λ W=>BdAt W bb bv t L (pcsT t L) (belT t L)) (Xp:=WyP t.ground) ?hro ?hg (qdE H.o.ground A8 bb bv (pcsT t L) (belT t L)) ?hps
    (λ b k W=>ctR w4 (waysT t.ground) b k W) (λ _ _=>False) (λ b k=>zb8 (by simp) _ b k) (λ _=>Stab.false _) ?h0 ?hN ?round ?done ?stop
   case hro=>intro l0 h;cases h
   case hg=>exact qgJ (bb:=bb) rfl
   case hps=>rintro k x W ⟨v,E8,_,rfl,_⟩;rfl
   case h0 =>
    intro b W' hb hE;refine zb8 (B:=(w4.alloc (.cells #[.slice none 0 0] 99)).heap.size) (by simp) (waysT t.ground) b 0 _ _ ⟨.slice none 0 0,[],(yf _ w4).alloc (ye _) _,yd w4 _,zfS _ _,by simp[Value.ownBlock]⟩ hE
   case hN=>rintro b k W ⟨v,vs,h1,_⟩;exact H1.o.keep h1
   case round =>
    intro b l k x W o hkn hx hI hl hlb hl2 hob hoc;obtain⟨u,E8,B4,rfl,B6⟩:=hx;simp only[zcL,yr,yF,yE];have HI:=yK hI;clear hI;have J3:=yK B6;clear B6;have J6:=yK B4;clear B4 F7;rw[yp]at hl;gi_wp2_with fail;refine⟨λ W'=>ctR w4 (waysT t.ground) b k W'/\RI.Own W' 0 u (E8.map λ n:Nat=>(n:Int)),Stab.and (zb8 (by simp) _ b k) (Stab.owns _ _ _ _ _ _ _),⟨ye _,λ j o' _ hk _=>hk⟩,⟨HI.o,J3.o⟩,hob,?_⟩;rintro W2 ⟨⟨v,vs,hb2,hbx2,hws2,hvb2⟩,hu2⟩ hl3 hob2;obtain⟨Z,G,rfl⟩:=hws2.slice;obtain⟨up,uc,rfl⟩:=zf hu2;rw[yB]at hu2;have h8:=(qdp (qh H.o.ground).1.2.nodup).2.2;have J9:((waysT t.ground).take k).length<=8:=(by rw[Yf];omega);have c1:=hbx2.cell;have f1:=hbx2.frozen;have G8:Hid (((waysT t.ground).take k).length+1<=maxLen):=yK (by simp only[maxLen];omega);have H3:Hid ((((waysT t.ground).take k).length+1)*24<=140737488355328):=yK (by omega);have G2:∀ (O:Obj) w10,(W2.alloc O).grownBy w10 (Value.slice Z ((waysT t.ground).take k).length G).ownBlock->Boxed w10 w4.heap.size 99 (.slice Z ((waysT t.ground).take k).length G):=λ O w10 hg =>
     (hg.block _ (by have:=hbx2.lt;rw[yp];omega) λ e=>by have:=(qg hws2.own e.symm).1;omega).trans (heapO O hbx2)
    have F4:=yK G2;clear G2;have J:=yK (And.intro hb2 (And.intro hbx2 (And.intro hws2 (And.intro hvb2 (And.intro hu2 hob2)))));clear hb2 hbx2 hws2 hvb2 hu2 hob2 hob;obtain⟨iI,J2,L0,J7,I9⟩:=info_parts infoII;have L9:w4.heap.size+1<=W2.heap.size:=(by have:=J.o.2.1.lt;omega);obtain⟨n2,m⟩:∃ n2,((waysT t.ground).take k).length=n2:=⟨_,rfl⟩;have B0:=yK m;rw[m]at c1 G8 H3 F4;clear m J9 h8;have D0:Hid (W2.ownsRow (w4.heap.size+1) 30 1 (.slice Z n2 G) n2 vs):=yK (by have:=J.o.2.2.1.own;rw[B0.o]at this;exact this);gi_wp2_with (first
     | (gi_at_builtin;(refine wpListIn_append_own_at (P:=Tryz.prog) _ rfl _ _ 99 rfl (w4.heap.size+1) 30 iI _ 1 24 underlying99 J2 L0 J7 I9 rfl (by decide) (.slice Z n2 G) n2 vs rfl (D0.o.alloc _) ⟨W2.heap.size,0,none⟩ 1 1 [.slice up E8.length uc] rfl rfl (zgi _ _ _) (by simp[Value.oneCell']) G8.o H3.o (by rw[yp];omega) ?_);intro v' w10 hown' hgrow _ A9;obtain⟨p',c',rfl⟩:=zf hown';have I5:=F4.o _ _ hgrow;have c1:=I5.cell;have f1:=I5.frozen))
    have D6:=zhl (B:=(w4.alloc (.cells #[.slice none 0 0] 99)).heap.size) J.o.1 J.o.2.1 J.o.2.2.1 J.o.2.2.2.1 J.o.2.2.2.2.1 J6.o J.o.2.2.2.2.2 (by omega) (by rw[B0.o];exact hown') (by rw[B0.o];exact hgrow) (by rw[B0.o];exact A9);exact D6
   case done =>
    intro b ds W hM ⟨v,vs,hb2,hbx2,hws2,_⟩;rw[Yd]at hws2;obtain⟨D,hD,rfl,hK⟩:=hM;rw[yp]at hD;obtain⟨Z,G,rfl⟩:=hws2.slice;have h8:=qdp (qh H.o.ground).1.2.nodup;have A3:0<(waysT t.ground).length:=List.length_pos_of_mem h8.2.1;obtain⟨gw,rfl⟩:∃ gw,Z=some ⟨gw,0,none⟩:=by
     rcases hws2.own.2 with⟨h,h0⟩|⟨g,cap,cur,h,_⟩
     ·rw[h0]at A3;exact absurd A3 (by decide)
     simp only[yC]at h;exact⟨g,h.1⟩
    have C9:Below W.heap.size W (W.alloc (.map #[] 0)):=(yf _ W).alloc (ye _) _;have I2:CtI w4 W.heap.size D (.slice (some ⟨gw,0,none⟩) (waysT t.ground).length G) vs (waysT t.ground) [] (W.alloc (.map #[] 0)):=⟨hb2.tm C9,heapO _ hbx2,hws2.below C9,HasM.made W txtV,heapO _ hK⟩;have E1:w4.heap.size+1<=W.heap.size:=(by have:=hbx2.lt;omega);have B3:=yK I2;clear I2;clear hb2 hbx2 hws2 C9 F7;gi_wp2_with fail;revert B3 E1;generalize W.alloc (.map #[] 0)=W5;generalize W.heap.size=mb;intro E1 B3;clear hK J5;have E7:Hid (∀ tw∈waysT t.ground,tw.length=t.ground.length/\∀ x∈tw,x<64):=yK λ tw M=>⟨(zfr M).1,λ x hx=>yO ((zfr M).2 x hx) A8⟩;obtain⟨WS,f⟩:∃ WS,waysT t.ground=WS:=⟨_,rfl⟩;have L7:=yK f;have F9:stepU t.ground=λ a s=>if keyT t.ground (List.range t.ground.length) s∈a.1 then a else (a.1++WS.map λ tw=>keyT t.ground tw s,a.2+1):=by
     funext a s;unfold stepU;rw[h8.1,f]
    have G0:=yK F9;clear F9;have G3:Hid (WS[0]?=some (List.range t.ground.length)):=yK (by
     have h1:=h8.1;rw[f]at h1 A3
     cases WS with
     | nil=>simp at A3
     | cons x l=>simp only[List.headD_cons]at h1;rw[<- h1];rfl)
    have M0:WS.length<=8:=(by rw[<- f];exact h8.2.2);rw[f]at B3 E7 A3;clear h8 f E9;obtain⟨Ss,q,L6,A7⟩:=A5.o;have B9:Hid (∀ W',Below w4.heap.size w4 W'->RS.Own W' w3.heap.size (.slice vp Ts.length I6) Ss/\∀ (i:Nat) (S:HS) (T:List Pc),Ss[i]?=some S->Ts[i]?=some T->RP.Own W' w3.heap.size S.laid (T.map (hpT t.ground L))):=yK λ W' h=>⟨qf q h,λ i S T h1 h2=>qf (A7 i S T h1 h2).2 h⟩;clear q A7 A5;simp only[List.append_nil];have A6:=G9.o
    gi_loopw [3,42] (λ u z wr=>∃ (i:Nat) (S:List (List UInt8)),i<=Ts.length/\z=.int .i64 i/\u=.int .i64 ((foldU t.ground Ts i).2:Nat)/\Hid (CtI w4 mb D (.slice (some ⟨gw,0,none⟩) WS.length G) vs WS S wr/\S.Nodup/\(∀ x,x∈S↔x∈(foldU t.ground Ts i).1)/\∀ x∈S,okTx x)) (λ _ z _=>Ts.length-(intOf z).toNat)
    case atStart=>exact⟨0,[],YC _,rfl,rfl,yK ⟨B3.o,List.nodup_nil,λ x=>by simp[zf2],λ x hx=>by simp at hx⟩⟩
    obtain⟨i,S,hi,rfl,rfl,HR⟩:=hrel;by_cases hlt:i<Ts.length
    ·obtain⟨T,hT⟩:∃ T,Ts[i]?=some T:=⟨_,yb hlt⟩;obtain⟨q,A7⟩:=B9.o wr HR.o.1.below;obtain⟨ST,r⟩:∃ ST,Ss[i]?=some ST:=⟨_,yb (by omega)⟩;have B8:Hid (∀ W',Below w4.heap.size w4 W'->RP.Has W' ST.laid (T.map (hpT t.ground L))):=yK λ W' h=>REnc.Own.has ((B9.o W' h).2 i ST T r hT);obtain⟨xa,rfl,A9⟩:=(REnc.Own.has (R:=RS) q).at_ (by rintro e;rw[e]at r;simp at r);have G7:(Instr.loadAt 108 (.pointer (some (xa.add (i*16))))).run Tryz.prog wr=.ok (.agg (hsVals ST).toArray) wr:=zn (P:=Tryz.prog) (R:=RS) underlying108 rfl sizeS A9 r;have E2:(Tryz.prog.info? 108).map (·.size)=some (hsVals ST).toArray.size:=sizeS;have G4:(hsVals ST).toArray.all (·.oneCell')=true:=(by simp[hsVals,Value.oneCell']);have G5:=yK (qfM (g:=t.ground) hT);have Y:=yK (C6.o T (yg hT));clear hT;clear q A7 r A9
     gi_upto_region 16 with (first
      | (refine qaS rfl 108 _ rfl rfl G7 ?_)
      | (refine zA rfl 108 _ _ rfl wr.heap.size rfl 108 _ (hsVals ST).toArray rfl (yd wr _) E2 rfl G4 ?_;rw[World.setRow_alloc_new]))
     simp only[Act.put];have A0:=yd wr (.cells (hsVals ST).toArray 108);have F8:Below wr.heap.size wr (wr.alloc (.cells (hsVals ST).toArray 108)):=(yf _ wr).alloc (ye _) _;have I:=HR.o.1.keep F8;clear G7;revert A0 I;clear F8;generalize wr.alloc (.cells (hsVals ST).toArray 108)=w6;generalize wr.heap.size=sb;intro A0 I;have L2:=I.ways.len;obtain⟨u0,F3⟩:∃ u0,vs[0]?=some u0:=⟨_,yb (by omega)⟩;have C4:=I.ways.each 0 u0 _ F3 G3.o;have C1:∀ d:SubW w6,Calls Tryz.prog 40 #[.agg (hsVals ST).toArray,u0] d.1 λ e w'=>e=.returned (.string ⟨(keyT t.ground (List.range t.ground.length) T).toArray⟩)/\∃ d':SubW w6,w'=d'.1:=λ d=>by
      obtain⟨B2,B1⟩:=E7.o _ (yg G3.o);refine (zfk (L:=L) A8 Y.o.1 Y.o.2 B2 B1 ST d.1 (B8.o d.1 (I.keep d.2).below) u0 (REnc.Own.has (R:=RI) (qf C4 d.2))).mono ?_;rintro e w' ⟨rfl,E5⟩;exact⟨rfl,⟨w',d.2.tm E5⟩,rfl⟩
     have B7:=yK C1;clear C1;have d1:∀ d:SubW w6,(Instr.loadAt 108 (.pointer (some ⟨sb,0,none⟩))).run Tryz.prog d.1=.ok (.agg (hsVals ST).toArray) d.1:=λ d=>by
      have:=run_loadVar_row (P:=Tryz.prog) d.1 sb 108 108 (hsVals ST).toArray (0,0) _ (d.block A0) underlying108 rfl E2;simp only[Instr.loadAt,Instr.sureAddr,yG,yH,yz,this]
     have d2:∀ d:SubW w6,d.1.cell? ⟨w4.heap.size,0,none⟩=some (.slice (some ⟨gw,0,none⟩) WS.length G):=λ d=>Boxed.cell (t:=99) (d.block I.box);have d3:∀ d:SubW w6,d.1.cell? ⟨gw,0,none⟩=some u0:=λ d=>by
      rw[(qf I.ways.own d.2).cellAt 0 (by omega),F3]
     have V:=yK I;clear I;have J8:=yK A0;clear A0;have H0:∀ p∈setM S,okTx p.1:=λ p hp=>HR.o.2.2.2 p.1 (za7.1 hp).1;have C2:=yK H0;clear H0;have H7:=qfs t.ground (List.range t.ground.length) Y.o.1;by_cases hin:keyT t.ground (List.range t.ground.length) T∈(foldU t.ground Ts i).1
     ·have d4:∀ d:SubW w6,(Instr.lookup 101 (.map (some mb)) (.string ⟨(keyT t.ground (List.range t.ground.length) T).toArray⟩) false).run Tryz.prog d.1=.ok (.bool true) d.1:=λ d =>
       qC encS underlying101 (V.o.map.below d.2) C2.o (by rw[qcw];exact HR.o.2.1) (za7.2 ⟨(HR.o.2.2.1 _).2 hin,rfl⟩) false
      have K:Hid (foldU t.ground Ts (i+1)=foldU t.ground Ts i):=yK (by rw[G5.o,G0.o];exact YA hin);clear hin;refine qaa 7 (by kernel_rfl) (by kernel_rfl) (by kernel_rfl) ?_;simp only[yh,yj,yi,yl]
      repeat (first|((refine zbJ rfl 108 _ rfl rfl (by rintro w ⟨d,rfl⟩;exact d1 d) ?_;simp only[Act.put,yr,yF,yE]))|go_big_quiet_step ((exact B7.o _)))
      refine wpQuiet_nil ?_;intro dq;have A:=V.o.keep dq.2;clear d1 d2 d3 d4;revert A;generalize dq.1=w7;intro A;have D3:=yK A;clear A;gi_wp2_with fail
      go_roundw
      case rel=>exact⟨i+1,S,by omega,by go_num,by rw[K.o],yK ⟨D3.o,HR.o.2.1,by rw[K.o];exact HR.o.2.2.1,HR.o.2.2.2⟩⟩
      case measure=>simp only[intOf];omega
     have d4:∀ d:SubW w6,(Instr.lookup 101 (.map (some mb)) (.string ⟨(keyT t.ground (List.range t.ground.length) T).toArray⟩) false).run Tryz.prog d.1=.ok (.bool false) d.1:=λ d =>
      zM encS underlying101 (zeroValue4 _) (V.o.map.below d.2) C2.o H7 (λ p hp e=>hin ((HR.o.2.2.1 _).1 (e▸(za7.1 hp).1))) false
     have K:Hid (foldU t.ground Ts (i+1)=((foldU t.ground Ts i).1++WS.map λ tw=>keyT t.ground tw T,(foldU t.ground Ts i).2+1)):=yK (by rw[G5.o,G0.o];exact Yz hin);clear hin;refine qaa 7 (by kernel_rfl) (by kernel_rfl) (by kernel_rfl) ?_;simp only[yh,yj,yi,yl]
     repeat (first|((refine zbJ rfl 108 _ rfl rfl (by rintro w ⟨d,rfl⟩;exact d1 d) ?_;simp only[Act.put,yr,yF,yE]))|go_big_quiet_step ((exact B7.o _)))
     refine wpQuiet_nil ?_;intro dq;have A:=V.o.keep dq.2;have X:=dq.block J8.o;clear d1 d2 d3 d4;revert A X;generalize dq.1=w7;intro A X;have D1:=zhv t.ground Ts i;obtain⟨un,I1⟩:∃ un,(foldU t.ground Ts i).2=un:=⟨_,rfl⟩;obtain⟨FA,G6⟩:∃ FA,(foldU t.ground Ts i).1=FA:=⟨_,rfl⟩;rw[I1]at D1 K ⊢;rw[G6]at K HR;have L5:un<=20000:=(by have:=G9.o;omega);have c9:=A.box.cell;have D3:=yK A;clear A;have I0:=yK X;clear X I1 G6;gi_wp2_with fail;clear c9
     gi_loopw [57] (λ z wq=>∃ (j:Nat) (S':List (List UInt8)),j<=WS.length/\z=.int .i64 j/\Hid (CtI w4 mb D (.slice (some ⟨gw,0,none⟩) WS.length G) vs WS S' wq/\S'.Nodup/\(∀ x,x∈S'↔x∈FA\/x∈(WS.take j).map λ tw=>keyT t.ground tw T)/\(∀ x∈S',okTx x)/\wq.heap[sb]?=some (.cells (hsVals ST).toArray 108 (0,0)))) (λ z _=>WS.length-(intOf z).toNat)
     case atStart=>exact⟨0,S,YC _,rfl,yK ⟨D3.o,HR.o.2.1,λ x=>by rw[HR.o.2.2.1];simp,HR.o.2.2.2,I0.o⟩⟩
     obtain⟨j,S',hj,rfl,C⟩:=hrel;by_cases hjl:j<WS.length
     ·obtain⟨tw,M⟩:∃ tw,WS[j]?=some tw:=⟨_,yb hjl⟩;obtain⟨uj,C5⟩:∃ uj,vs[j]?=some uj:=⟨_,yb (by omega)⟩;have c0:wr.cell? ⟨gw,j,none⟩=some uj:=(by rw[C.o.1.ways.own.cellAt j (by omega),C5]);have F1:=C.o.1.ways.each j uj tw C5 M;obtain⟨B2,B1⟩:=E7.o _ (yg M);have J1:=yK (zfk (L:=L) A8 Y.o.1 Y.o.2 B2 B1 ST wr (B8.o wr C.o.1.below) uj (REnc.Own.has (R:=RI) F1));have H2:=yK M;have C0:(Instr.loadAt 108 (.pointer (some ⟨sb,0,none⟩))).run Tryz.prog wr=.ok (.agg (hsVals ST).toArray) wr:=by
       have:=run_loadVar_row (P:=Tryz.prog) wr sb 108 108 (hsVals ST).toArray (0,0) _ C.o.2.2.2.2 underlying108 rfl E2;simp only[Instr.loadAt,Instr.sureAddr,yG,yH,yz,this]
      clear F1 M C5 B2 B1;gi_wp2_with (refine qaS rfl 108 _ rfl rfl C0 ?_);refine zy.2 (J1.o.mono ?_);rintro e w8 ⟨rfl,D8⟩;have U:=C.o.1.keep D8;have A4:=(D8.block _ (ya.1 C.o.2.2.2.2).1).trans C.o.2.2.2.2;have B5:=qfs t.ground tw Y.o.1;obtain⟨S2,F6,m,D7⟩:=qdK encS underlying101 U.map C.o.2.2.2.1 C.o.2.1 B5;have L3:(Instr.mapUpdate 101 (.map (some mb)) (.string ⟨(keyT t.ground tw T).toArray⟩) (.bool true)).run Tryz.prog w8=.ok () (putM txtV w8 mb (setM S2)):=F6;have H9:sb≠mb:=λ e=>by
       have h1:=U.map;unfold HasM at h1;rw[<- e,A4]at h1;cases h1
      have D6:Hid (CtI w4 mb D (.slice (some ⟨gw,0,none⟩) WS.length G) vs WS S2 (putM txtV w8 mb (setM S2))/\S2.Nodup/\(∀ x,x∈S2↔x∈FA\/x∈(WS.take (j+1)).map λ tw=>keyT t.ground tw T)/\(∀ x∈S2,okTx x)/\(putM txtV w8 mb (setM S2)).heap[sb]?=some (.cells (hsVals ST).toArray 108 (0,0))):=yK (by
       refine⟨U.put E1 S2,m,λ x=>?_,λ x hx=>?_,(zD w8 H9 _).trans A4⟩
       ·rw[D7,C.o.2.2.1,zl H2.o,Ym,yY,or_assoc];simp
       rcases (D7 x).1 hx with h|rfl
       ·exact C.o.2.2.2.1 x h
       exact B5)
      clear F6 m D7 U A4 D8 c0 C0;gi_wp2_with fail
      go_roundw
      case rel=>exact⟨j+1,S2,by omega,by go_num,D6⟩
      case measure=>simp only[intOf];omega
     obtain rfl:j=WS.length:=(by omega);gi_wp2_with fail
     go_roundw
     case rel =>
      refine⟨i+1,S',by omega,by go_num,by rw[K.o];go_num,yK ⟨C.o.1,C.o.2.1,λ x=>?_,C.o.2.2.2.1⟩⟩;rw[K.o,C.o.2.2.1,Yd,yY]
     case measure=>simp only[intOf];omega
    obtain rfl:i=Ts.length:=(by omega);have D1:=zgW t.ground Ts;rw[D1];have L1:=HR.o.1.defr;gi_wp2_with fail;refine⟨[D],rfl,by simp,by simpa using L1,λ w' tk=>⟨.tuple #[.int .i64 Ts.length,.int .i64 (unlikeT t.ground Ts:Nat),.int .i64 nd,.int .i64 0],by simp[results,results11,go_sem],?_⟩⟩;rw[<- E3.o];have J0:Below w.heap.size w wr:=C7.o.tm HR.o.1.below;have L8:=C7.o.size;exact⟨Ts.length,unlikeT t.ground Ts,nd,0,rfl,J0.trans (tk.below (by simp;omega)),λ _=>C8.o.symm,λ h=>absurd H.o h⟩
   rintro ds c W _ h;exact h.elim
  have H9:(((tilingsT t).2.2:Int) != 0)=true:=by simpa using hcode
  have E0:=yK hcode;clear hcode;gi_wp2_with fail;refine⟨[],rfl,List.nodup_nil,λ D hD=>(by cases hD),λ w' tk=>⟨.tuple #[.int .i64 0,.int .i64 0,.int .i64 0,.int .i64 (tilingsT t).2.2],by simp[results,results11,go_sem],?_⟩⟩;rw[<- E3.o];exact⟨0,0,0,(tilingsT t).2.2,rfl,C7.o.trans (tk.below (by simp)),λ _=>by unfold countT;rw[Yz E0.o],λ h=>absurd H.o h⟩
 ·have HN:Hid (¬ OkT t):=yK λ h=>absurd (HO.o.2 h) (by decide);clear D2 E6 D9 HO;gi_wp2_with fail;refine⟨[],rfl,List.nodup_nil,λ D hD=>(by cases hD),λ w' tk=>⟨.tuple #[.int .i64 0,.int .i64 0,.int .i64 0,.int .i64 2],by simp[results,results11,go_sem],?_⟩⟩;rw[<- E3.o];exact⟨0,0,0,2,rfl,D5.o.trans (tk.below (by simp)),λ h=>absurd h HN.o,λ _=>⟨rfl,rfl,rfl,rfl⟩⟩
theorem qgI {t:Tk} (w:World) (vg vk vc vf vb:Value) (hg:HasQ w vg t.ground) (hk:HasQQ w vk t.kinds) (hc:RI.Has w vc t.counts) (hcf:flatV vc) (hf:RL.Has w vf t.fixed) (hb:RE.Has w vb t.below) (hcl:t.counts.length<=1000) (hbl:t.below.length<=1000000) (htb:TbAt w) :
  Calls Tryz.prog 15 #[.agg #[vg,vk,vc,vf,vb]] w (zea t w):=by
 obtain⟨gp,gc,rfl⟩:=hg.slice;obtain⟨kp,kc,rfl⟩:=hk.slice;obtain⟨cp,cc,rfl⟩:=hc.slice;obtain⟨fp,fc,rfl⟩:=hf.slice;obtain⟨bp,bc,rfl⟩:=hb.slice;have S:∀ W,Bw w W->Calls Tryz.prog 13 #[.agg #[.slice gp t.ground.length gc,.slice kp t.kinds.length kc,.slice cp t.counts.length cc,.slice fp t.fixed.length fc,.slice bp t.below.length bc]] W (CkPost t W) :=
  λ W h=>qau W _ _ _ _ _ (hg.below h) (hk.below h) (hc.below h) (hf.below h) (hb.below h) hcl hbl
 have V:∀ W,Bw w W->OkT t->Calls Tryz.prog 37 #[.agg #[.slice gp t.ground.length gc,.slice kp t.kinds.length kc,.slice cp t.counts.length cc,.slice fp t.fixed.length fc,.slice bp t.below.length bc]] W λ e w'=>∃ (bb:Nat) (bv:BV) (L:List E),e=.returned (.pointer (some ⟨bb,0,none⟩))/\W.heap.size<=bb/\BdAt w' bb bv t L (pcsT t L) (belT t L)/\LOk t.ground L/\Bw W w' :=
  λ W h ho=>zcs ho W _ _ _ _ _ (hg.below h) (hk.below h) (hc.below h) hcf (hf.below h) (hb.below h)
 have M:∀ W bb bv L,Bw w W->OkT t->LOk t.ground L->BdAt W bb bv t L (pcsT t L) (belT t L)->Calls Tryz.prog 48 #[.pointer (some ⟨bb,0,none⟩),.slice none 0 0] W λ e w'=>∃ v,e=.returned (.tuple #[v,.int .i64 (firstT t).2])/\RL.Own w' W.heap.size v (firstT t).1/\Bw W w' :=
  λ W bb bv L h ho hl B=>qgY ho (qR ho hl) (λ s hs=>za2 hs) W bb bv B (htb.below h) λ W' hb' _=>zba (qR ho hl) W' bb bv hb'
 have R:=yK S;clear S;have F:=yK V;clear V;have D:=yK M;clear M hg hk hc hf hb htb hcf;generalize O:zea t w=Po;have T:=yK O;clear O;go_enter func15,ntmps15;go_wp2_with fail;have hT:=yd w (.cells #[.slice gp t.ground.length gc,.slice kp t.kinds.length kc,.slice cp t.counts.length cc,.slice fp t.fixed.length fc,.slice bp t.below.length bc] 34);have hB:Bw w (w.alloc (.cells #[.slice gp t.ground.length gc,.slice kp t.kinds.length kc,.slice cp t.counts.length cc,.slice fp t.fixed.length fc,.slice bp t.below.length bc] 34)):=(yf _ w).alloc (ye _) _;revert hT hB;generalize w.alloc (.cells #[.slice gp t.ground.length gc,.slice kp t.kinds.length kc,.slice cp t.counts.length cc,.slice fp t.fixed.length fc,.slice bp t.below.length bc] 34)=w1;intro hT hB;have HB:=yK hB;clear hB;have K:=(ya.1 hT).1;refine (R.o w1 HB.o).mono ?_;rintro e w2 ⟨a,rfl,h0,h2,H⟩;have G:=(H.block _ K).trans hT;have I:=yK (HB.o.tm H);clear H HB K;have A:∀ j,w2.cell? ⟨w.heap.size,j,none⟩=(#[.slice gp t.ground.length gc,.slice kp t.kinds.length kc,.slice cp t.counts.length cc,.slice fp t.fixed.length fc,.slice bp t.below.length bc]:Array Value)[j]?:=λ j=>by simp only[World.cell?,G];simp
 have c0:=A 0;have c1:=A 1;have c2:=A 2;have c3:=A 3;have c4:=A 4;simp at c0 c1 c2 c3 c4;clear A hT R;have HO:=yK h0;clear h0;rcases h2 with rfl|rfl
 ·have ho:=HO.o.1 rfl;have HL:=yK (F.o w2 I.o ho);have HA:=yK λ W bb bv L h=>D.o W bb bv L h ho;have X:=yK ho;clear ho F D G HO;go_wp2_with fail;refine HL.o.mono ?_;rintro e w3 ⟨bb,bv,L,rfl,Z,B,C,U⟩;have J:=yK (I.o.tm U);clear U HL;have P:=yK (HA.o w3 bb bv L J.o C B);clear HA B C c0 c1 c2 c3 c4 Z;go_wp2_with fail;refine P.o.mono ?_;rintro e w4 ⟨v,rfl,hv,N⟩;have Y:=yK (J.o.tm N);clear N P;have HV:=yK (zB hv J.o.size);clear hv;go_wp2_with fail;rw[<- T.o];exact⟨v,_,rfl,Y.o,λ _=>⟨HV.o,rfl⟩,λ h=>absurd X.o h⟩
 ·have HN:Hid (¬ OkT t):=yK λ h=>absurd (HO.o.2 h) (by decide);clear F D G HO;go_wp2_with fail;rw[<- T.o];exact⟨_,2,rfl,I.o,λ h=>absurd h HN.o,λ _=>⟨rfl,rfl⟩⟩
structure KnT (w W:World) (tb:Nat) (g k c:Value) (us:List Value):Prop where
 task:W.heap[tb]?=some (.cells #[g,k,c,.slice none 0 0,.slice none 0 0] 34 (0,0))
 ground:OwnQ W w.heap.size g (zC 2 2)
 kinds:OwnQQ W w.heap.size k us [zC 2 1]
 counts:RI.Own W w.heap.size c [2]
 below:Bw w W
 tbw:w.heap.size<=tb
theorem KnT.keep {w W W':World} {tb:Nat} {g k c:Value} {us:List Value} (h:KnT w W tb g k c us) (e:Bw W W'):KnT w W' tb g k c us :=
 ⟨(e.block _ (ya.1 h.task).1).trans h.task,h.ground.below e,OwnQQ.below h.kinds e,qf h.counts e,h.below.tm e,h.tbw⟩
theorem zch {W:World} {base:Nat} {v:Value} {l:List Ld} (h:RL.Own W base v l) (hl:l≠[]):∃ g c,v=.slice (some ⟨g,0,none⟩) l.length c/\∀ j,j<l.length*5->W.cell? ⟨g,j,none⟩=(RL.cells l)[j]?:=by
 rcases h.2 with⟨_,h0⟩|⟨g,cap,cur,rfl,h1,h2,h3,h4,h5⟩
 ·exact absurd (yT.1 h0) hl
 exact⟨g,cap,rfl,λ j hj=>World.ownsRow.cellAt h j hj⟩
theorem zhf {w w2:World} {g k:Value} {z:Array Value} (hb:Bw w w2) (hg:OwnQ w2 w.heap.size g (zC 2 2)) (hk:OwnQ w2 w.heap.size k (zC 2 1)) :
  KnT w ((((w2.alloc (.cells #[k] 22)).alloc (.cells #[.int .i64 2] 3)).alloc (.cells z 34)).setRow (w2.heap.size+1+1) #[g,.slice (some ⟨w2.heap.size,0,none⟩) 1 1,.slice (some ⟨w2.heap.size+1,0,none⟩) 1 1,.slice none 0 0,.slice none 0 0]) (w2.heap.size+1+1) g (.slice (some ⟨w2.heap.size,0,none⟩) 1 1) (.slice (some ⟨w2.heap.size+1,0,none⟩) 1 1) [k]:=by
 have F:(((w2.alloc (.cells #[k] 22)).alloc (.cells #[.int .i64 2] 3)).alloc (.cells z 34)).heap[w2.heap.size]?=some (.cells #[k] 22 (0,0)):=heapO _ (qP w2 _ _).1;have B:(((w2.alloc (.cells #[k] 22)).alloc (.cells #[.int .i64 2] 3)).alloc (.cells z 34)).heap[w2.heap.size+1]?=some (.cells #[.int .i64 2] 3 (0,0)):=heapO _ (qP w2 _ _).2.1;have C:=qbk w2 (.cells #[k] 22) (.cells #[.int .i64 2] 3) (.cells z 34);have hA:Bw w2 (((w2.alloc (.cells #[k] 22)).alloc (.cells #[.int .i64 2] 3)).alloc (.cells z 34)):=(qP w2 _ _).2.2.alloc (qP w2 _ _).2.2.size _;revert F B C hA;generalize (((w2.alloc (.cells #[k] 22)).alloc (.cells #[.int .i64 2] 3)).alloc (.cells z 34))=A;intro F B C hA;have D:Bw w2 (A.setRow (w2.heap.size+1+1) #[g,.slice (some ⟨w2.heap.size,0,none⟩) 1 1,.slice (some ⟨w2.heap.size+1,0,none⟩) 1 1,.slice none 0 0,.slice none 0 0]):=zh hA (by omega) _;have G:=hb.size;refine⟨setRow_heap _ _ _ _ _ _ C,hg.below D,⟨⟨rfl,.inr ⟨w2.heap.size,1,#[k],rfl,G,(setRow_other _ _ _ _ (by omega)).trans F,ye _,by decide,rfl,rfl⟩⟩,rfl,λ i u l hu hl=>?_⟩,⟨rfl,.inr ⟨w2.heap.size+1,1,#[.int .i64 2],rfl,by omega,(setRow_other _ _ _ _ (by omega)).trans B,ye _,by decide,rfl,rfl⟩⟩,hb.trans (D.mono G),by omega⟩
 cases i with
 | zero =>
  simp only[List.getElem?_cons_zero,yo]at hu hl;subst hu hl;exact hk.below D
 | succ i=>simp at hu
theorem qhc {W:World} {base g n c:Nat} {l:List Ld} (h:RL.Own W base (.slice (some ⟨g,0,none⟩) n c) l) (h1:1<=l.length:=by decide):RL.Has W (.slice (some ⟨g,0,none⟩) 1 c) (l.take 1):=by
 have hl:(l.take 1).length=1:=by rw[Yf];omega
 rcases (REnc.Own.has (R:=RL) (l:=l) (show W.ownsRow base _ _ (.slice (some ⟨g,0,none⟩) n c) _ _ from h))with⟨he,_⟩|⟨a,cap,h1',h2,h3,h4⟩
 ·cases he
 simp only[yC,yo]at h1';obtain⟨rfl,_,rfl⟩:=h1';refine .inr ⟨_,c,by rw[hl],by rw[hl];omega,h3,λ _=>h4.lt (by rintro rfl;simp at h1),λ i x hx j u hu=>?_⟩;refine h4.at_ i x ?_ j u hu;rw[List.getElem?_take]at hx;split at hx
 ·exact hx
 cases hx
theorem qig {W:World} {base g n c:Nat} {l:List Ld} (h:RL.Own W base (.slice (some ⟨g,0,none⟩) n c) l):l.length<=c:=by
 rcases h.2 with⟨he,_⟩|⟨g',cap,cur,hv,_,_,h3,_⟩
 ·cases he
 simp only[yC]at hv;obtain⟨_,_,rfl⟩:=hv;exact h3
theorem qeP {P:Program} {C:World->Prop} {o:Oper} {a:Act} {K:Act->Prop} {x y:Operand} {T e:TypeId} {g n cap k s:Nat} (ho:o.op=.slice T x none (some y) none) (hx:a.eval x=.slice (some ⟨g,0,none⟩) n cap) (hy:a.eval y=.int .i64 (k:Int)) (hk:k<=cap)
  (ht0:P.underlying T=some (.slice e)) (hs0:∀ W,(sizeOf e).run P W=.ok s W) (hK:K (a.put o.dst (.slice (some ⟨g,0,none⟩) k cap))):o.quiet P a C K:=by
 have A:P.elem T=e:=by simp[Program.elem,ht0]
 have ht:P.underlying T=some (.slice (P.elem T)):=by rw[A];exact ht0
 have hs:∀ W,(sizeOf (P.elem T)).run P W=.ok s W:=λ W=>by rw[A];exact hs0 W
 refine⟨.slice (some ⟨g,0,none⟩) k cap,λ w hc=>?_,hK⟩;unfold Oper.quietAt execOp;simp only[ho,Option.map_none,Option.map_some,yG,hx,hy];rw[run_sliceAt_slice w T _ _ _ _ ht,run_slice_h w T _ _ _ ht .i64 (k:Int) (by omega) (by omega),hs];simp only[yz,yH,Int.toNat_natCast,qfH];exact⟨rfl,rfl⟩
def knF (tb sz:Nat) (kv:Value):Nat->(Nat->Value)->World->Prop
 | 0,v,W=>OwnQ W sz (v 0) (zC 3 1)
 | 1,v,_=>v 1=.pointer (some ⟨tb,1,none⟩)
 | 2,v,_=>v 2=kv
 | 3,v,W=>RI.Own W sz (v 3) [2]
 | 4,v,_=>v 4=.agg #[v 0,v 2,v 3,.slice none 0 0,.slice none 0 0]
 | 5,v,_=>v 5=.tuple #[.int .i64 2,.int .i64 0]
 | 6,v,_=>v 6=.tuple #[.int .i64 2,.int .i64 0]
 | 7,v,_=>v 7=.int .i64 2
 | 8,v,_=>v 8=.int .i64 0
 | 9,v,_=>v 9=.int .i64 2
 | 10,v,_=>v 10=.int .i64 0
 | _,_,_=>True
def knR:Nat->List Nat
 | 4=>[0,2,3]
 | _=>[]
theorem zgg {tb sz:Nat} {kv:Value}:∀ i v v' W,(∀ j,(j=i\/j∈knR i)->v j=v' j)->knF tb sz kv i v W->knF tb sz kv i v' W:=by
 intro i v v' W h hF;have hi:=h i (.inl rfl)
 match i,h,hi,hF with
 | 0,_,hi,hF|1,_,hi,hF|2,_,hi,hF|3,_,hi,hF|5,_,hi,hF|6,_,hi,hF|7,_,hi,hF|8,_,hi,hF|9,_,hi,hF|10,_,hi,hF =>
  simp only[knF]at hF ⊢;rw[<- hi];exact hF
 | 4,h,hi,hF =>
  simp only[knF]at hF ⊢;rw[<- hi,<- h 0 (.inr (by simp[knR])),<- h 2 (.inr (by simp[knR])),<- h 3 (.inr (by simp[knR]))];exact hF
 | n+11,_,_,_=>trivial
theorem zdb {tb sz:Nat} {kv:Value} {v:Nat->Value} {W W':World} (hB:Bw W W'):∀ {i},knF tb sz kv i v W->knF tb sz kv i v W':=by
 intro i hF
 match i,hF with
 | 1,hF|2,hF|4,hF|5,hF|6,hF|7,hF|8,hF|9,hF|10,hF=>exact hF
 | 0,hF=>exact qf hF hB
 | 3,hF=>exact qf hF hB
 | n+11,_=>trivial
theorem qis (w:World) (htb:TbAt w):Calls Tryz.prog 22 #[] w λ e w'=>e=.returned (.bool true)/\Bw w w':=by
 have G3:=yK htb;clear htb;have F2:Hid (Calls Tryz.prog 63 #[.int .i64 2,.int .i64 2] w λ e w'=>∃ u,e=.returned u/\OwnQ w' w.heap.size u (zC 2 2)/\Bw w w'):=yK (qb3 2 2 (by decide) (by decide) w);have C8:Hid (∀ W,Calls Tryz.prog 63 #[.int .i64 2,.int .i64 1] W λ e w'=>∃ u,e=.returned u/\OwnQ w' W.heap.size u (zC 2 1)/\Bw W w'):=yK λ W=>qb3 2 1 (by decide) (by decide) W;have F9:Hid (∀ W,Calls Tryz.prog 63 #[.int .i64 3,.int .i64 1] W λ e w'=>∃ u,e=.returned u/\OwnQ w' W.heap.size u (zC 3 1)/\Bw W w'):=yK λ W=>qb3 3 1 (by decide) (by decide) W;generalize C6:(λ (e:Ending) (w':World)=>e=.returned (.bool true)/\Bw w w')=Po;have G4:=yK C6;clear C6;go_enter func22,ntmps22;go_wp2_with fail;refine F2.o.mono ?_;rintro e w1 ⟨u1,rfl,A9,F3⟩;obtain⟨gp,gc,rfl⟩:=zf A9;have D1:=yK A9;have B1:=yK F3;clear A9 F3 F2;go_wp2_with fail;refine (C8.o w1).mono ?_;rintro e w2 ⟨u2,rfl,A6,B0⟩;obtain⟨kp,kc,rfl⟩:=zf A6;have F6:=yK A6;have D3:=yK (D1.o.below B0);have F8:=yK (B1.o.tm B0);have E1:=yK B1.o.size;clear A6 B0 C8 D1 B1;go_upto_region 2 with (refine wpList_store_row rfl 34 _ _ rfl (w2.heap.size+1+1) rfl 34 _ #[.slice gp (zC 2 2).length gc,.slice (some ⟨w2.heap.size,0,none⟩) 1 1,.slice (some ⟨w2.heap.size+1,0,none⟩) 1 1,.slice none 0 0,.slice none 0 0] rfl (qbk _ _ _ _) sizeTask rfl (by simp[Value.oneCell']) ?_);simp only[Act.put,yr,yF,yE];have a:=zhf (z:=#[.slice none 0 0,.slice none 0 0,.slice none 0 0,.slice none 0 0,.slice none 0 0]) F8.o D3.o (zB F6.o (by have:=E1.o;exact this));revert a;generalize (((w2.alloc (.cells #[.slice kp (zC 2 1).length kc] 22)).alloc (.cells #[.int .i64 2] 3)).alloc (.cells #[.slice none 0 0,.slice none 0 0,.slice none 0 0,.slice none 0 0,.slice none 0 0] 34)).setRow (w2.heap.size+1+1) #[.slice gp (zC 2 2).length gc,.slice (some ⟨w2.heap.size,0,none⟩) 1 1,.slice (some ⟨w2.heap.size+1,0,none⟩) 1 1,.slice none 0 0,.slice none 0 0]=w3;generalize w2.heap.size+1+1=tb;generalize H3:(Value.slice (some ⟨w2.heap.size+1,0,none⟩) 1 1)=cv;generalize H6:(Value.slice (some ⟨w2.heap.size,0,none⟩) 1 1)=kv;generalize G8:(Value.slice gp (zC 2 2).length gc)=gv;intro a;have A7:=yK a;have C5:Hid (∀ W,Bw w W->TbAt W):=yK λ W h=>G3.o.below h;have C:Hid (∀ W,KnT w W tb gv kv cv [.slice kp (zC 2 1).length kc]->HasQ W gv zS.ground/\HasQQ W kv zS.kinds/\RI.Has W cv zS.counts/\flatV cv/\RL.Has W (.slice none 0 0) zS.fixed/\RE.Has W (.slice none 0 0) zS.below/\TbAt W):=yK λ W h =>
  ⟨h.ground.has,zca h.kinds,REnc.Own.has h.counts,qcY h.counts,.inl ⟨rfl,rfl⟩,.inl ⟨rfl,rfl⟩,C5.o W h.below⟩
 have s:Hid (∀ W,KnT w W tb gv kv cv [.slice kp (zC 2 1).length kc]->Calls Tryz.prog 11 #[.agg #[gv,kv,cv,.slice none 0 0,.slice none 0 0]] W λ e w'=>e=.returned (.tuple #[.int .i64 2,.int .i64 1,.int .i64 5,.int .i64 0])/\Bw W w'):=yK λ W h=>by
  obtain⟨a1,a2,a3,a4,a5,a6,a7⟩:=C.o W h;refine (zgG (t:=zS) W _ _ _ _ _ a1 a2 a3 a4 a5 a6 (by decide) (by decide) a7).mono ?_;rintro e w' ⟨all,H2,F4,H,rfl,hB,h4,_⟩;have h5:=h4 zbA;rw[zeZ]at h5;simp only[Prod.mk.injEq]at h5;obtain⟨rfl,rfl,rfl,rfl⟩:=h5;exact⟨rfl,hB⟩
 have A3:Hid (∀ W,KnT w W tb gv kv cv [.slice kp (zC 2 1).length kc]->Calls Tryz.prog 15 #[.agg #[gv,kv,cv,.slice none 0 0,.slice none 0 0]] W λ e w'=>∃ v,e=.returned (.tuple #[v,.int .i64 0])/\RL.Own w' W.heap.size v tilA/\Bw W w'):=yK λ W h=>by
  obtain⟨a1,a2,a3,a4,a5,a6,a7⟩:=C.o W h;refine (qgI (t:=zS) W _ _ _ _ _ a1 a2 a3 a4 a5 a6 (by decide) (by decide) a7).mono ?_;rintro e w' ⟨v,H,rfl,hB,h4,_⟩;obtain⟨h5,h6⟩:=h4 zbA;rw[qe5]at h5 h6;subst h6;exact⟨v,rfl,h5,hB⟩
 have Z:Hid (∀ W v x,KnT w W tb gv kv cv [.slice kp (zC 2 1).length kc]->RL.Has W v x->x.length<=16->coversT zS x=(0,0)->Calls Tryz.prog 28 #[.agg #[gv,kv,cv,.slice none 0 0,.slice none 0 0],v] W λ e w'=>∃ u,e=.returned (.tuple #[u,.int .i64 (nextT zS (parts zS x)).2])/\RL.Own w' W.heap.size u (nextT zS (parts zS x)).1/\Bw W w'):=yK λ W v x h hv h16 h0=>by
  obtain⟨a1,a2,a3,a4,a5,a6,a7⟩:=C.o W h;refine (zhN (t:=zS) W _ _ _ _ _ v a1 a2 a3 a4 a5 a6 (by decide) (by decide) a7 x (by omega) hv).mono ?_;rintro e w' ⟨u,H,rfl,hB,hc⟩;rcases hc with⟨_,hc⟩|⟨_,_,_,h5,h6⟩
  ·rcases hc with⟨h1,_⟩|⟨_,h1,_⟩|⟨_,_,h1,_⟩
   ·exact absurd zbA h1
   ·omega
   exact absurd h0 h1
  subst h6;exact⟨u,rfl,h5,hB⟩
 have E2:=a.task;clear a;go_wp2_with (refine Yb rfl 34 _ rfl tb rfl 34 #[gv,kv,cv,.slice none 0 0,.slice none 0 0] (0,0) _ E2 underlying34 rfl sizeTask ?_);refine (s.o w3 A7.o).mono ?_;rintro e w4 ⟨rfl,E4⟩;have M:=yK (A7.o.keep E4);have D0:=M.o.task;clear E4 E2 A7 s;go_wp2_with (refine Yb rfl 34 _ rfl tb rfl 34 #[gv,kv,cv,.slice none 0 0,.slice none 0 0] (0,0) _ D0 underlying34 rfl sizeTask ?_);refine (A3.o w4 M.o).mono ?_;rintro e w5 ⟨vl,rfl,F0,C4⟩;have J:=yK (M.o.keep C4);have C7:=J.o.task;have B6:=yK F0;clear C4 D0 M A3 F0;have C9:Hid (Calls Tryz.prog 28 #[.agg #[gv,kv,cv,.slice none 0 0,.slice none 0 0],vl] w5 λ e w'=>∃ u,e=.returned (.tuple #[u,.int .i64 0])/\RL.Own w' w5.heap.size u tilB/\Bw w5 w'):=yK (by
  have:=Z.o w5 vl tilA J.o (REnc.Own.has B6.o) (by decide) qbB.1;rw[zdA.1]at this;exact this)
 go_wp2_with (refine Yb rfl 34 _ rfl tb rfl 34 #[gv,kv,cv,.slice none 0 0,.slice none 0 0] (0,0) _ C7 underlying34 rfl sizeTask ?_);refine C9.o.mono ?_;rintro e w6 ⟨vm,rfl,E8,B5⟩;have N:=yK (J.o.keep B5);have E0:=N.o.task;have D4:=yK (qf B6.o B5);have B4:=yK E8;clear B5 C7 J C9 E8 B6;have D8:Hid (Calls Tryz.prog 28 #[.agg #[gv,kv,cv,.slice none 0 0,.slice none 0 0],vm] w6 λ e w'=>∃ u,e=.returned (.tuple #[u,.int .i64 7])/\RL.Own w' w6.heap.size u []/\Bw w6 w'):=yK (by
  have:=Z.o w6 vm tilB N.o (REnc.Own.has B4.o) (by decide) qbB.2.1;rw[zdA.2]at this;exact this)
 go_wp2_with (refine Yb rfl 34 _ rfl tb rfl 34 #[gv,kv,cv,.slice none 0 0,.slice none 0 0] (0,0) _ E0 underlying34 rfl sizeTask ?_);refine D8.o.mono ?_;rintro e w7 ⟨vz,rfl,_,f⟩;have G:=yK (N.o.keep f);have G2:=G.o.task;have m:=yK (qf D4.o f);have q:=yK (qf B4.o f);clear f E0 N D8 Z D4 B4;obtain⟨gl,cl,rfl,R⟩:=zch m.o (by decide);obtain⟨gm,cm,rfl,A⟩:=zch q.o (by decide);have l5:w7.cell? ⟨gl,5,none⟩=some (.int .i64 0):=R 5 (by decide);have l6:w7.cell? ⟨gl,6,none⟩=some (.bool false):=R 6 (by decide);have l7:w7.cell? ⟨gl,7,none⟩=some (.int .i64 0):=R 7 (by decide);have l8:w7.cell? ⟨gl,8,none⟩=some (.int .i64 0):=R 8 (by decide);have l9:w7.cell? ⟨gl,9,none⟩=some (.int .i64 1):=R 9 (by decide);have m5:w7.cell? ⟨gm,5,none⟩=some (.int .i64 0):=A 5 (by decide);have m6:w7.cell? ⟨gm,6,none⟩=some (.bool false):=A 6 (by decide);have m7:w7.cell? ⟨gm,7,none⟩=some (.int .i64 1):=A 7 (by decide);have m8:w7.cell? ⟨gm,8,none⟩=some (.int .i64 1):=A 8 (by decide);have m9:w7.cell? ⟨gm,9,none⟩=some (.int .i64 0):=A 9 (by decide);have q1:(Op.equalIn 10000 50 (.agg #[.int .i64 0,.bool false,.int .i64 0,.int .i64 0,.int .i64 1]) (.agg #[.int .i64 0,.bool false,.int .i64 0,.int .i64 0,.int .i64 1])).run Tryz.prog w7=.ok true w7:=qbg ⟨0,false,0,0,1⟩ ⟨0,false,0,0,1⟩ w7;have q2:(Op.equalIn 10000 50 (.agg #[.int .i64 0,.bool false,.int .i64 1,.int .i64 1,.int .i64 0]) (.agg #[.int .i64 0,.bool false,.int .i64 1,.int .i64 1,.int .i64 0])).run Tryz.prog w7=.ok true w7:=qbg ⟨0,false,1,1,0⟩ ⟨0,false,1,1,0⟩ w7;clear R A;simp only[show tilA.length=2 from rfl,show tilB.length=2 from rfl]at m q ⊢;go_upto_region 8 with fail;have A0:Hid (Calls Tryz.prog 32 #[.agg #[gv,kv,cv,.slice none 0 0,.slice none 0 0],.int .i64 2] w7 λ e w'=>∃ (u:Value) (us:List Value),e=.returned (.tuple #[u,.int .i64 0])/\OwnLs RL 31 w' w7.heap.size u us [tilA,tilB]/\Bw w7 w'):=yK (by
  obtain⟨a1,a2,a3,a4,a5,a6,a7⟩:=C.o w7 G.o;refine (qdg (t:=zS) 2 w7 _ _ _ _ _ a1 a2 a3 a4 a5 a6 (by decide) (by decide) a7).mono ?_;rintro e w' ⟨u,us,H,rfl,hB,hc⟩;rcases hc with⟨_,hc⟩|⟨_,_,_,h5,h6⟩
  ·rcases hc with⟨h1,_⟩|⟨_,h1,_⟩
   ·exact absurd zbA h1
   exact absurd h1 (by decide)
  rw[show (2:Int).toNat=2 from rfl,zeS]at h5 h6;subst h6;exact⟨u,us,rfl,h5,hB⟩)
 have A1:=G.o.task;clear l5 l6 l7 l8 l9 m5 m6 m7 m8 m9 q1 q2 G2;go_wp2_with (refine Yb rfl 34 _ rfl tb rfl 34 #[gv,kv,cv,.slice none 0 0,.slice none 0 0] (0,0) _ A1 underlying34 rfl sizeTask ?_);refine A0.o.mono ?_;rintro e w8 ⟨vp,H1,rfl,C0,p⟩;have O:=yK (G.o.keep p);have B3:=yK (qf m.o p);have D9:=yK (qf q.o p);have D5:=yK C0;obtain⟨G7,H4,x1,rfl,A5,_,_⟩:=C0.at (i:=1) (l:=tilB) rfl;clear p C0 A1 G m q A0 A5;go_upto_region 9 with fail;have U:=O.o.task;have t0:∀ d:SubW w8,d.1.cell? ⟨tb,0,none⟩=some gv:=λ d=>by simp[World.cell?,d.block U]
 have t1:∀ d:SubW w8,d.1.cell? ⟨tb,1,none⟩=some kv:=λ d=>by simp[World.cell?,d.block U]
 have t2:∀ d:SubW w8,d.1.cell? ⟨tb,2,none⟩=some cv:=λ d=>by simp[World.cell?,d.block U]
 have t3:∀ d:SubW w8,d.1.cell? ⟨tb,3,none⟩=some (.slice none 0 0):=λ d=>by simp[World.cell?,d.block U]
 have t4:∀ d:SubW w8,d.1.cell? ⟨tb,4,none⟩=some (.slice none 0 0):=λ d=>by simp[World.cell?,d.block U]
 have A8:Hid (∀ d:SubW w8,Calls Tryz.prog 19 #[.agg #[gv,kv,cv,.slice none 0 0,.slice none 0 0],.slice (some ⟨gl,0,none⟩) 1 cl] d.1 λ e w'=>e=.returned (.tuple #[.int .i64 4,.int .i64 8,.int .i64 0])/\∃ d':SubW w8,w'=d'.1):=yK λ d=>by
  obtain⟨a1,a2,a3,a4,a5,a6,a7⟩:=C.o d.1 (O.o.keep d.2);refine (zfQ (t:=zS) d.1 _ _ _ _ _ (.slice (some ⟨gl,0,none⟩) 1 cl) a1 a2 a3 a4 a5 a6 (by decide) (by decide) a7 (tilA.take 1) (by decide) (qhc (qf B3.o d.2))).mono ?_;rintro e w' ⟨n,i,H,rfl,hB,_,_,hc⟩;obtain⟨h1,h2⟩:=hc zbA (by decide);rw[qbB.2.2]at h1;simp only[Prod.mk.injEq]at h1;obtain⟨rfl,rfl⟩:=h1;subst h2;exact⟨rfl,⟨w',d.2.tm hB⟩,rfl⟩
 clear U;have F7:Hid (1<=cl):=yK (by have:=qig B3.o;have h2:tilA.length=2:=rfl;omega);refine zg 11 (by kernel_rfl) (by kernel_rfl) ?_;simp only[yh,yj,yi,yl]
 repeat (go_big_quiet_step (exact A8.o _))
 go_big_quiet_want;refine qeP (T:=31) (g:=gl) (n:=2) (cap:=cl) (k:=1) rfl rfl rfl F7.o underlying31 sizeOf50 ?_;simp only[Act.put,yr,yF,yE];go_big_quiet_on
 repeat (go_big_quiet_step (exact A8.o _))
 refine wpQuiet_nil ?_;intro dq;have D:=yK (O.o.keep dq.2);have B9:=yK (qf D9.o dq.2);have B2:=yK (D5.o.below dq.2);clear t0 t1 t2 t3 t4 A8 O D9 B3 D5;revert D B9 B2;generalize dq.1=w9;intro D B9 B2;go_upto_region 10 with fail;have A4:Hid (∀ W ug uc,KnT w W tb gv kv cv [.slice kp (zC 2 1).length kc]->OwnQ W w9.heap.size ug (zC 3 1)->RI.Own W w9.heap.size uc [2]->Calls Tryz.prog 24 #[.agg #[ug,kv,uc,.slice none 0 0,.slice none 0 0]] W λ e w'=>e=.returned (.tuple #[.int .i64 2,.int .i64 0])/\Bw W w'):=yK λ W ug uc h hu hc=>by
  obtain⟨a1,a2,a3,a4,a5,a6,a7⟩:=C.o W h;refine (zh6 (t:=zeu) W ug _ uc _ _ hu.has a2 (REnc.Own.has hc) (qcY hc) a5 a6 (by decide) (by decide) a7).mono ?_;rintro e w' ⟨r,H,rfl,hB,h4,_⟩;have h5:=h4 qgb;rw[qfY]at h5;simp only[Prod.mk.injEq]at h5;obtain⟨rfl,rfl⟩:=h5;exact⟨rfl,hB⟩
 have B:=@zgg tb w9.heap.size kv;have F:∀ L L' W,(∀ j,L j=true->L' j=true)->(λ _ W=>Bw w9 W:(Nat->Bool)->World->Prop) L W->(λ _ W=>Bw w9 W:(Nat->Bool)->World->Prop) L' W:=λ _ _ _ _ h=>h;refine zT 164 (by kernel_rfl) (by kernel_rfl) rfl (FamJ (knF tb w9.heap.size kv) (λ _=>[]) knR (λ _ W=>Bw w9 W)) (FamJ.start ((yf _ w9).drew) _) ?_ ?_
 ·refine⟨?_,?_,?_,?_,?_,?_,?_,?_,?_,?_,?_,trivial⟩
  ·intro L1 b W vals hL hD hC K hJ;refine qX (args:=#[.int .i64 3,.int .i64 1]) rfl (by simp only[Yu,yM,Yi];rfl) (enters_of func63 (by kernel_rfl) rfl) ((F9.o W).mono ?_);rintro e W' ⟨u,rfl,ho,hb⟩;exact⟨u,rfl,hJ.step B hL (by intro j hj;simp[knR]at hj) (hJ.base.tm hb) (zB ho hJ.base.size) (λ k hk hd hF=>zdb hb hF)⟩
  ·intro L1 b W vals hL hD hC K hJ;have e1:b.eval (.tmp 1)=(.pointer (some ⟨tb,0,none⟩)):=(K.was 1 (by kernel_rfl)).trans rfl;refine lu_v (I:=Instr.fieldAt 34 (b.eval (.tmp 1)) 1) rfl (u:=_) ?_ (hJ.still B F hL (by intro j hj;simp[knR]at hj) rfl);rw[e1];kernel_rfl
  ·intro L1 b W vals hL hD hC K hJ;obtain⟨E7,_⟩:=K.val 1 112 (by kernel_rfl);have f1:=hJ.get 1 (hD 1 (by kernel_rfl)) (by intro j hj;simp at hj);refine lu_v (I:=Instr.loadAt 29 (b.eval (.tmp 112))) rfl ?_ (hJ.still B F hL (by intro j hj;simp[knR]at hj) rfl);rw[E7,f1];exact ql isAgg29 (by have:=(D.o.keep hJ.base).task;simp only[World.cell?,this];rfl)
  ·intro L1 b W vals hL hD hC K hJ;obtain⟨iI,G0,G5,B7,G9⟩:=info_parts qdj;refine zac (u:=.int .i64 2) rfl rfl underlying30 G0 G5 (by rw[B7];decide) (by rw[B7];decide) (cells:=([.int .i64 2]:List Value).toArray) (by rw[B7];exact Great.fill_flat [.int .i64 2] _ (λ v hv=>by simp only[yU]at hv;subst hv;rfl) (by simp)) ?_;have hb:Bw W (W.alloc (.cells ([.int .i64 2]:List Value).toArray 3)):=(yf _ W).alloc (ye _) _;exact hJ.step B hL (by intro j hj;simp[knR]at hj) (hJ.base.tm hb) (show World.ownsRow _ _ _ _ _ _ _ from⟨rfl,.inr ⟨W.heap.size,1,#[.int .i64 2],rfl,hJ.base.size,yd W _,ye _,by decide,rfl,rfl⟩⟩) (λ k hk hd hF=>zdb hb hF)
  ·intro L1 b W vals hL hD hC K hJ;obtain⟨C1,_⟩:=K.val 0 111 (by kernel_rfl);obtain⟨E3,_⟩:=K.val 2 113 (by kernel_rfl);obtain⟨E6,_⟩:=K.val 3 114 (by kernel_rfl);have f0:=hJ.get 0 (hD 0 (by kernel_rfl)) (by intro j hj;simp at hj);have f2:=hJ.get 2 (hD 2 (by kernel_rfl)) (by intro j hj;simp at hj);have f3:=hJ.get 3 (hD 3 (by kernel_rfl)) (by intro j hj;simp at hj);obtain⟨p0,c0,h0⟩:=zf f0;obtain⟨p3,c3,h3⟩:=zf f3;have g2:vals 2=kv:=f2;obtain⟨pk,ck,hk⟩:=zf D.o.kinds.row;refine zV (W':=W) (v:=.agg #[vals 0,vals 2,vals 3,.slice none 0 0,.slice none 0 0]) ?_ (hJ.still B F hL (by intro j hj;simp[knR]at hj;rcases hj with rfl|rfl|rfl <;> exact hD _ (by kernel_rfl)) rfl)
   unfold execOp;have G1:=run_build (P:=Tryz.prog) W 34 #[(0,vals 0),(1,vals 2),(2,vals 3)] #[vals 0,vals 2,vals 3,.slice none 0 0,.slice none 0 0] (by rw[h0,g2,hk,h3];kernel_rfl);simp only[Yu,yM,Yi,C1,E3,E6,yG,G1,yz,yH]
  ·intro L1 b W vals hL hD hC K hJ;obtain⟨D6,_⟩:=K.val 4 115 (by kernel_rfl);have f4:=hJ.get 4 (hD 4 (by kernel_rfl)) (by intro j hj;simp at hj);have B8:=(hJ.each 4 (hD 4 (by kernel_rfl))).1;have f0:=hJ.get 0 (B8 0 (by simp[knR])) (by intro j hj;simp at hj);have f2:=hJ.get 2 (B8 2 (by simp[knR])) (by intro j hj;simp at hj);have f3:=hJ.get 3 (B8 3 (by simp[knR])) (by intro j hj;simp at hj);have g4:vals 4=.agg #[vals 0,vals 2,vals 3,.slice none 0 0,.slice none 0 0]:=f4;have g2:vals 2=kv:=f2;refine qX (args:=#[.agg #[vals 0,kv,vals 3,.slice none 0 0,.slice none 0 0]]) rfl (by simp only[Yu,yM,Yi,D6,g4,g2]) (enters_of func24 (by kernel_rfl) rfl) ((A4.o W _ _ (D.o.keep hJ.base) f0 f3).mono ?_);rintro e W' ⟨rfl,hb⟩;exact⟨_,rfl,hJ.step B hL (by intro j hj;simp[knR]at hj) (hJ.base.tm hb) rfl (λ k hk hd hF=>zdb hb hF)⟩
  ·intro L1 b W vals hL hD hC K hJ;obtain⟨D7,_⟩:=K.val 5 116 (by kernel_rfl);have f5:=hJ.get 5 (hD 5 (by kernel_rfl)) (by intro j hj;simp at hj);refine qO rfl ?_;have g5:vals 5=.tuple #[.int .i64 2,.int .i64 0]:=f5;rw[D7,g5];exact (hJ.still B F hL (by intro j hj;simp[knR]at hj) rfl)
  ·intro L1 b W vals hL hD hC K hJ;obtain⟨V,_⟩:=K.val 6 110 (by kernel_rfl);have f6:=hJ.get 6 (hD 6 (by kernel_rfl)) (by intro j hj;simp at hj);refine lu_v (I:=Instr.extract (b.eval (.tmp 110)) 0) (u:=.int .i64 2) rfl ?_ (hJ.still B F hL (by intro j hj;simp[knR]at hj) rfl);have g6:vals 6=.tuple #[.int .i64 2,.int .i64 0]:=f6;rw[V,g6];exact qY rfl _
  ·intro L1 b W vals hL hD hC K hJ;obtain⟨V,_⟩:=K.val 6 110 (by kernel_rfl);have f6:=hJ.get 6 (hD 6 (by kernel_rfl)) (by intro j hj;simp at hj);refine lu_v (I:=Instr.extract (b.eval (.tmp 110)) 1) (u:=.int .i64 0) rfl ?_ (hJ.still B F hL (by intro j hj;simp[knR]at hj) rfl);have g6:vals 6=.tuple #[.int .i64 2,.int .i64 0]:=f6;rw[V,g6];exact qY rfl _
  ·intro L1 b W vals hL hD hC K hJ;obtain⟨C3,_⟩:=K.val 7 117 (by kernel_rfl);have f7:=hJ.get 7 (hD 7 (by kernel_rfl)) (by intro j hj;simp at hj);refine qam rfl ?_;have g:vals 7=.int .i64 2:=f7;rw[C3,g];exact (hJ.still B F hL (by intro j hj;simp[knR]at hj) rfl)
  intro L1 b W vals hL hD hC K hJ;obtain⟨D2,_⟩:=K.val 8 118 (by kernel_rfl);have f8:=hJ.get 8 (hD 8 (by kernel_rfl)) (by intro j hj;simp at hj);refine qam rfl ?_;have g:vals 8=.int .i64 0:=f8;rw[D2,g];exact (hJ.still B F hL (by intro j hj;simp[knR]at hj) rfl)
 intro L1 vals W hL hJ;have f9:=hJ.get 9 (hL 9 (by decide)) (by intro j hj;simp at hj);have E9:=hJ.get 10 (hL 10 (by decide)) (by intro j hj;simp at hj);have h9:vals 9=.int .i64 2:=f9;have C2:vals 10=.int .i64 0:=E9;have c:Bw w9 W:=hJ.base;have X:=yK (D.o.keep c);have y:=qf B9.o c;have A2:=B2.o.below c;obtain⟨x1,A5,Y,_,E5⟩:=A2.get (i:=1) (l:=tilB) rfl;obtain⟨gx,cx,rfl,S⟩:=zch E5 (by decide);obtain⟨H5,H0,F1,A⟩:=zch y (by decide);simp only[yC,yo,Addr.mk.injEq,and_true]at F1;obtain⟨rfl,F5,rfl⟩:=F1;clear F5;have m0:W.cell? ⟨gm,0,none⟩=some (.int .i64 0):=A 0 (by decide);have m1:W.cell? ⟨gm,1,none⟩=some (.bool false):=A 1 (by decide);have m2:W.cell? ⟨gm,2,none⟩=some (.int .i64 1):=A 2 (by decide);have m3:W.cell? ⟨gm,3,none⟩=some (.int .i64 0):=A 3 (by decide);have m4:W.cell? ⟨gm,4,none⟩=some (.int .i64 0):=A 4 (by decide);have x0:W.cell? ⟨gx,0,none⟩=some (.int .i64 0):=S 0 (by decide);have x1:W.cell? ⟨gx,1,none⟩=some (.bool false):=S 1 (by decide);have x2:W.cell? ⟨gx,2,none⟩=some (.int .i64 1):=S 2 (by decide);have x3:W.cell? ⟨gx,3,none⟩=some (.int .i64 0):=S 3 (by decide);have x4:W.cell? ⟨gx,4,none⟩=some (.int .i64 0):=S 4 (by decide);have q1:∀ W,(Op.equalIn 10000 50 (.agg #[.int .i64 0,.bool false,.int .i64 1,.int .i64 0,.int .i64 0]) (.agg #[.int .i64 0,.bool false,.int .i64 1,.int .i64 0,.int .i64 0])).run Tryz.prog W=.ok true W:=λ W=>qbg ⟨0,false,1,0,0⟩ ⟨0,false,1,0,0⟩ W;simp only[show tilB.length=2 from rfl]at Y;clear hJ hL f9 E9 c y A2 A5 E5 S A B F A4;simp only[yA,yN,Yl,YE,Yk,Yg,yM,Yi,putAll,Act.put,yr,yF,yE,h9,C2];clear h9 C2;go_upto_region 11 with fail;refine zt 45 (by kernel_rfl) (by kernel_rfl) ?_;simp only[yh,yj,yi,yl]
 repeat (go_big_quiet_step (fail))
 refine wpQuiet_nil ?_;intro nq;have G6:=yK (X.o.below.trans ((below_drewN _ W nq).mono X.o.below.size));clear m0 m1 m2 m3 m4 x0 x1 x2 x3 x4 q1 Y;go_wp2_with fail;rw[<- G4.o];exact⟨rfl,G6.o⟩
end Go.Proofs.YtiinlplgloaanaaGreatDoor
