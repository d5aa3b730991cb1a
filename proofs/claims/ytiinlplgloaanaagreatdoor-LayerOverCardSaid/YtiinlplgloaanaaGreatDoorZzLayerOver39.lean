/- A return of a zero struct and of a variable's row: 'return fault{}, s' (the load may come behind the first store). -/
import Derived.Test.YtiinlplgloaanaaGreatDoorZzLayerOver38
set_option linter.all false
set_option maxRecDepth 100000
set_option maxHeartbeats 8000000
namespace Go.Proofs.YtiinlplgloaanaaGreatDoor
open Go.Proofs.Tryz Go.RowKit
attribute [local go_sem] Oper.semAt_some
def findP (ps:List (List HP)) (l:Ld):Option HP:=if 0<=l.kind/\l.kind<ps.length then (ps.getD l.kind.toNat []).find? (λ p=>decide (p.ld=l))else none
def zeroP:HP:=⟨⟨0,false,0,0,0⟩,0,(0,0,0)⟩
theorem zen {t:Tk} {L:List E} {ps:List (List HP)} {bel:W3} (w:World) (bb:Nat) (bv:BV) (hb:BdAt w bb bv t L ps bel) (hpl:ps.length=t.kinds.length) (hk8:t.kinds.length<=8) (hsm:∀ l∈ps,l.length<=1000000) (l:Ld) :
  Calls Tryz.prog 109 #[.pointer (some ⟨bb,0,none⟩),.agg (ldVals l).toArray] w λ e w'=>e=.returned (.tuple #[RP.val ((findP ps l).getD zeroP),.bool (findP ps l).isSome])/\Bw w w':=by
 obtain⟨vg,vk,vc,vf,vb,qm,em,pv,B9⟩:=bv;obtain⟨kp,kc,A9⟩:=hb.kinds.slice;simp only at A9;subst A9;obtain⟨pp,pc,A2⟩:=hb.pieces.slice;simp only at A2;subst A2;generalize v:(λ (e:Ending) (w':World)=>e=.returned (.tuple #[RP.val ((findP ps l).getD zeroP),.bool (findP ps l).isSome])/\Bw w w')=Po;have s:=yK v;clear v;have HB:=yK hb;clear hb;have B0:=yK hsm;clear hsm;go_enter func109,ntmps109;go_upto_region 1 with fail;change Code.wp _ _ _ _ ((w.alloc (.cells (ldVals l).toArray 50)).alloc (.cells (hpVals zeroP).toArray 152));have hA:=heapO (.cells (hpVals zeroP).toArray 152) (yd w (.cells (ldVals l).toArray 50));have hR:=yd (w.alloc (.cells (ldVals l).toArray 50)) (.cells (hpVals zeroP).toArray 152);rw[yp]at hR;have H:Bw w ((w.alloc (.cells (ldVals l).toArray 50)).alloc (.cells (hpVals zeroP).toArray 152)):=((yf _ w).alloc (ye _) _).alloc (by rw[yp];omega) _;revert hA hR H;generalize (w.alloc (.cells (ldVals l).toArray 50)).alloc (.cells (hpVals zeroP).toArray 152)=w1;intro hA hR H;have m:=HB.o.keep H;have A:=m.blk;simp only at A;have b1:∀ d:SubW w1,d.1.cell? ⟨bb,1,none⟩=some (.slice kp t.kinds.length kc):=λ d=>by simp only[World.cell?,d.block A];rfl
 have b7:∀ d:SubW w1,d.1.cell? ⟨bb,7,none⟩=some (.slice pp ps.length pc):=λ d=>by simp only[World.cell?,d.block A];rfl
 have l0:∀ d:SubW w1,d.1.cell? ⟨w.heap.size,0,none⟩=some (.int .i64 l.kind):=λ d=>by simp only[World.cell?,d.block hA];rfl
 have HW:Hid (∀ d:SubW w1,Calls Tryz.prog 43 #[.int .i64 l.kind,.int .i64 0,.int .i64 ((t.kinds.length:Int)-1)] d.1 λ e w'=>e=.returned (.bool (decide (0<=l.kind/\l.kind<=(t.kinds.length:Int)-1)))/\∃ d':SubW w1,w'=d'.1):=yK λ d=>by
  refine (qJ l.kind 0 ((t.kinds.length:Int)-1) d.1).mono ?_;rintro e w' ⟨rfl,rfl⟩;exact⟨rfl,d,rfl⟩
 have X:=yK m;clear m A;have HA:=yK hA;clear hA;have HR:=yK hR;clear hR;have A3:=yK H;clear H;have T:(Tryz.prog.info? 152).map (·.size)=some (hpVals zeroP).toArray.size:=sizeP;by_cases hin:0<=l.kind/\l.kind<ps.length
 ·have hd:decide (0<=l.kind/\l.kind<=(t.kinds.length:Int)-1)=true:=yw (by omega);rw[hd]at HW;obtain⟨k,hk⟩:∃ k:Nat,l.kind=k:=⟨l.kind.toNat,by omega⟩;obtain⟨pl,F⟩:∃ pl,ps[k]?=some pl:=⟨_,yb (by omega)⟩;obtain⟨pa,U,rfl,_,_,K,c⟩:=X.o.pieces.get F;have S:Hid (findP ps l=pl.find? (λ p=>decide (p.ld=l))):=yK (by
   unfold findP;rw[YA hin,hk,Int.toNat_natCast,yu,F];rfl)
  rw[hk]at HW l0;clear hd;refine zg 11 (by kernel_rfl) (by kernel_rfl) ?_;simp only[yh,yj,yi,yl]
  repeat (go_big_quiet_step ((exact HW.o _)))
  refine wpQuiet_nil ?_;intro dq;have M:=dq.block HA.o;have Y:=dq.block HR.o;have J:=X.o.keep dq.2;have b:=A3.o.tm dq.2;have B:∀ d:SubW dq.1,d.1.cell? (pa.add k)=some U:=λ d=>by
   obtain⟨B8,B6,e1,_,e2,e3,_⟩:=((X.o.keep dq.2).keep d.2).pieces.get F
   cases e1
   obtain⟨B7,B5,f1,_,f2,f3,_⟩:=X.o.pieces.get F
   cases f1
   rw[e2]at f2;cases f2;rw[K]at f3;cases f3;exact e3
  have D:=c.below dq.2;clear b1 b7 l0 K c;revert M Y J b B D;generalize dq.1=w3;intro M Y J b B D;have A:=J.blk;simp only at A;have b7:∀ d:SubW w3,d.1.cell? ⟨bb,7,none⟩=some (.slice (some pa) ps.length pc):=λ d=>by simp only[World.cell?,d.block A];rfl
  have l0:∀ d:SubW w3,d.1.cell? ⟨w.heap.size,0,none⟩=some (.int .i64 k):=λ d=>by
   simp only[World.cell?,d.block M];show (ldVals l).toArray[0]?=_;simp[ldVals,hk]
  have C0:k<ps.length:=(yc.1 F).1;have g:=B0.o pl (yg F);have A4:Hid (∀ d:SubW w3,Calls Tryz.prog 135 #[U,.func (.func 136) #[] #[.pointer (some ⟨w.heap.size,0,none⟩)]] d.1 λ e w'=>e=.returned (.int .i64 (idxI pl l))/\∃ d':SubW w3,w'=d'.1):=yK λ d=>by
   refine (qg9 pl U l w.heap.size d.1 (D.below d.2) g (d.block M)).mono ?_;rintro e w' ⟨rfl,B4⟩;exact⟨rfl,⟨w',d.2.tm B4⟩,rfl⟩
  have A0:=yK Y;clear Y;have A8:=yK b;clear b;have f:=yK J;clear J A;have y:=yK D;clear D;go_wp2_with fail;refine zg 11 (by kernel_rfl) (by kernel_rfl) ?_;simp only[yh,yj,yi,yl]
  repeat (go_big_quiet_step ((exact A4.o _)))
  refine wpQuiet_nil ?_;intro dq;have G:=dq.block A0.o;have A5:=f.o.keep dq.2;have O:=A8.o.tm dq.2;have I:=y.o.below dq.2;have C:∀ d:SubW dq.1,d.1.cell? (pa.add k)=some U:=λ d=>B ⟨d.1,dq.2.tm d.2⟩;have W:∀ d:SubW dq.1,d.1.cell? ⟨bb,7,none⟩=some (.slice (some pa) ps.length pc):=λ d=>b7 ⟨d.1,dq.2.tm d.2⟩;have V:∀ d:SubW dq.1,d.1.cell? ⟨w.heap.size,0,none⟩=some (.int .i64 k):=λ d=>l0 ⟨d.1,dq.2.tm d.2⟩;clear b7 l0 B y A0 A8 f A4 M;revert G A5 O I C W V;generalize dq.1=w4;intro G A5 O I C W V
  cases hf:pl.findIdx? (λ p=>decide (p.ld=l))with
  | none =>
   have hx:idxI pl l=-1:=(by unfold idxI;rw[hf]);have q:Hid (findP ps l=none):=yK (by
    rw[S.o,List.find?_eq_none];rw[List.findIdx?_eq_none_iff]at hf;intro x hx;simpa using hf x hx)
   rw[hx];clear hf hx W V C;go_wp2_with (refine wpList_store_row rfl 152 _ _ rfl (w.heap.size+1) rfl 152 _ (hpVals zeroP).toArray rfl G T rfl (by simp[hpVals,Value.oneCell']) ?_);refine Yc (qH rfl underlying152 rfl _ _ (w.heap.size+1) (hpVals zeroP).toArray (0,0) (.bool false) (setRow_heap _ _ _ _ _ _ G) T rfl rfl) rfl ?_;rw[<- s.o];exact⟨by rw[q.o];rfl,zh O (YF _) _⟩
  | some i =>
   have hx:idxI pl l=i:=(by unfold idxI;rw[hf]);obtain⟨hi,A6,A7⟩:=List.findIdx?_eq_some_iff_getElem.1 hf;obtain⟨p,hp⟩:∃ p,pl[i]?=some p:=⟨_,yb hi⟩;have q:Hid (findP ps l=some p):=yK (by
    have he:pl[i]=p:=(by rw[yb hi]at hp;exact Option.some.inj hp);rw[S.o,List.find?_eq_some_iff_getElem];exact⟨by rw[<- he];exact A6,i,hi,he,λ j hj=>by simpa using A7 j hj⟩)
   rw[hx];obtain⟨xp,xc,rfl⟩:=I.slice;have N:∀ d:SubW w4,∃ xa,xp=some xa/\(Instr.loadAt 152 (.pointer (some (xa.add (i*9))))).run Tryz.prog d.1=.ok (.agg (hpVals p).toArray) d.1:=λ d=>by
    obtain⟨xa,e,B2⟩:=(I.below d.2).at_ (by rintro e;rw[e]at hp;simp at hp);exact⟨xa,e,zn (P:=Tryz.prog) (R:=RP) underlying152 rfl sizeP B2 hp⟩
   obtain⟨xa,rfl,_⟩:=N ⟨w4,yf _ _⟩;have A1:∀ d:SubW w4,(Instr.loadAt 152 (.pointer (some (xa.add (i*9))))).run Tryz.prog d.1=.ok (.agg (hpVals p).toArray) d.1:=λ d=>by
    obtain⟨C1,e,h⟩:=N d
    cases e;exact h
   have B3:=yK G;clear G;have B1:=yK O;clear O;clear hf hx A6 A7 N I;go_wp2_with fail;refine zg 11 (by kernel_rfl) (by kernel_rfl) ?_;simp only[yh,yj,yi,yl]
   repeat (first|((go_big_quiet_want;refine qF 152 _ rfl rfl (by rintro w ⟨d,rfl⟩;exact A1 d) ?_;simp only[Act.put,yr,yF,yE];go_big_quiet_on))|go_big_quiet_step (fail))
   refine wpQuiet_nil ?_;intro dq;have Z:=dq.block B3.o;have r:=B1.o.tm dq.2;clear W V C A1;revert Z r;generalize dq.1=w5;intro Z r;have z:(Tryz.prog.info? 152).map (·.size)=some (hpVals p).toArray.size:=sizeP;go_wp2_with (refine wpList_store_row rfl 152 _ _ rfl (w.heap.size+1) rfl 152 _ (hpVals p).toArray rfl Z z rfl (by simp[hpVals,Value.oneCell']) ?_);refine Yc (qH rfl underlying152 rfl _ _ (w.heap.size+1) (hpVals p).toArray (0,0) (.bool true) (setRow_heap _ _ _ _ _ _ Z) z rfl rfl) rfl ?_;rw[<- s.o];exact⟨by rw[q.o];rfl,zh r (YF _) _⟩
 ·have hd:decide (0<=l.kind/\l.kind<=(t.kinds.length:Int)-1)=false:=yv (by omega);rw[hd]at HW;have S:Hid (findP ps l=none):=yK (Yz hin);clear hin hd;refine zg 11 (by kernel_rfl) (by kernel_rfl) ?_;simp only[yh,yj,yi,yl]
  repeat (go_big_quiet_step ((exact HW.o _)))
  refine wpQuiet_nil ?_;intro dq;have a:=dq.block HR.o;have n:=A3.o.tm dq.2;clear b1 b7 l0;revert a n;generalize dq.1=w2;intro a n;go_wp2_with (refine wpList_store_row rfl 152 _ _ rfl (w.heap.size+1) rfl 152 _ (hpVals zeroP).toArray rfl a T rfl (by simp[hpVals,Value.oneCell']) ?_);refine Yc (qH rfl underlying152 rfl _ _ (w.heap.size+1) (hpVals zeroP).toArray (0,0) (.bool false) (setRow_heap _ _ _ _ _ _ a) T rfl rfl) rfl ?_;rw[<- s.o];exact⟨by rw[S.o];rfl,zh n (YF _) _⟩
def stepR (t:Tk) (s:Option (List Pc)) (l:Ld):Option (List Pc):=match s with|none=>none|some s=>match findT t l with|none=>none|some p=>putT t s p
def foldR (t:Tk) (k:Nat):Option (List Pc):=(t.fixed.take k).foldl (stepR t) (some [])
theorem zdX (t:Tk):foldR t t.fixed.length=rootT t:=by unfold foldR;rw[Yd];rfl
theorem zfy {t:Tk} {k:Nat} {l:Ld} (h:t.fixed[k]?=some l):foldR t (k+1)=stepR t (foldR t k) l:=by
 unfold foldR;rw[zl h,List.foldl_append];rfl
theorem zbp (t:Tk):∀ l:List Ld,l.foldl (stepR t) none=none
 | []=>rfl
 | _ :: l=>zbp t l
theorem zdz {t:Tk} {k:Nat} (h:foldR t k=none):rootT t=none:=by
 rw[<- zdX];have e:t.fixed=t.fixed.take k++t.fixed.drop k:=(List.take_append_drop k _).symm;unfold foldR at *;rw[Yd]
 conv=>lhs;rw[e]
 rw[List.foldl_append,h,zbp]
theorem qeB (t:Tk) (L:List E) (l:Ld):findP (pcsT t L) l=(findT t l).map (hpT t.ground L):=by
 unfold findP findT pcsT;rw[yB,qV];by_cases h:0<=l.kind/\l.kind<(t.kinds.length:Int)
 ·rw[YA h,YA h,yu,yQ,yu];obtain⟨pl,hpl⟩:∃ pl,(piecesT t)[l.kind.toNat]?=some pl:=⟨_,yb (by rw[qV];omega)⟩;rw[hpl];show (pl.map (hpT t.ground L)).find? _=(pl.find? _).map _;rw[List.find?_map];rfl
 rw[Yz h,Yz h];rfl
theorem zco {t:Tk} {l:Ld} {p:Pc} (h:findT t l=some p):∃ (k:Nat) (pl:List Pc),(piecesT t)[k]?=some pl/\p∈pl/\p.ld=l:=by
 unfold findT at h;split at h
 ·rename_i hk;obtain⟨pl,hpl⟩:∃ pl,(piecesT t)[l.kind.toNat]?=some pl:=⟨_,yb (by rw[qV];omega)⟩;rw[yu,hpl]at h;exact⟨_,pl,hpl,List.mem_of_find?_eq_some h,by simpa using List.find?_some h⟩
 cases h
structure RtI (t:Tk) (L:List E) (w:World) (bb:Nat) (bv:BV) (s:List Pc) (S:HS) (W:World):Prop where
 box:W.heap[w.heap.size]?=some (.cells (hsVals S).toArray 108 (0,0))
 st:StT t.ground L s S
 own:RP.Own W w.heap.size S.laid (s.map (hpT t.ground L))
 good:GoodT t s
 bd:BdAt W bb bv t L (pcsT t L) (belT t L)
 below:Bw w W
theorem RtI.keep {t:Tk} {L:List E} {w:World} {bb:Nat} {bv:BV} {s:List Pc} {S:HS} {W W':World} (h:RtI t L w bb bv s S W) (e:Bw W W'):RtI t L w bb bv s S W' :=
 ⟨(e.block _ (ya.1 h.box).1).trans h.box,h.st,qf h.own e,h.good,h.bd.keep e,h.below.tm e⟩
theorem zba {t:Tk} {L:List E} (ok:TkOk t L) (w:World) (bb:Nat) (bv:BV) (hb:BdAt w bb bv t L (pcsT t L) (belT t L)) :
  Calls Tryz.prog 65 #[.pointer (some ⟨bb,0,none⟩)] w (RootPost t L w):=by
 have A9:∀ l∈pcsT t L,l.length<=1000000:=λ l hl=>by
  obtain⟨x,hx,rfl⟩:=yP.1 hl;obtain⟨⟨s,k⟩,_,rfl⟩:=yP.1 hx;rw[yB];have:=zb9 s t.ground;show (piecesK t.ground k s).length<=_;unfold piecesK;rw[yB];omega
 have V:(pcsT t L).length=t.kinds.length:=by unfold pcsT;rw[yB,qV]
 obtain⟨vg,vk,vc,vf,vb,qm,em,pv,n⟩:=bv;obtain⟨fp,fc,A7⟩:=hb.fixed.slice;simp only at A7;subst A7;have C2:=(ya.1 hb.blk).1;have hA:=yd w (.cells (hsVals zeroS).toArray 108);have M:Bw w (w.alloc (.cells (hsVals zeroS).toArray 108)):=(yf _ w).alloc (ye _) _;have U:RtI t L w bb ⟨vg,vk,vc,.slice fp t.fixed.length fc,vb,qm,em,pv,n⟩ [] zeroS (w.alloc (.cells (hsVals zeroS).toArray 108)):=⟨hA,zfu _ _,RP.own_nil _ _,zel t,hb.keep M,M⟩;have B0:=yK A9;clear A9;have B4:=yK V;clear V;clear hA M;generalize A0:RootPost t L w=Po;have q:=yK A0;clear A0;have C1:t.fixed.length<=9223372036854775807:=by
  rcases hb.fixed with⟨_,h⟩|⟨_,_,_,h1,h2,_⟩
  ·rw[h];decide
  simp only[maxLen]at h2;omega
 have B9:=yK hb;clear hb;go_enter func65,ntmps65;go_upto_region 1 with fail;change Code.wp _ _ _ _ (w.alloc (.cells (hsVals zeroS).toArray 108));revert U;generalize w.alloc (.cells (hsVals zeroS).toArray 108)=w1;intro U;have B7:=yK U;have W:=U.bd.blk;simp only at W;have b3:w1.cell? ⟨bb,3,none⟩=some (.slice fp t.fixed.length fc):=by simp only[World.cell?,W];rfl
 clear U W;go_wp2_with fail;clear b3;go_loopw [14] (λ z wr=>∃ (k:Nat) (s:List Pc) (S:HS),k<=t.fixed.length/\z=.int .i64 k/\Hid (foldR t k=some s/\RtI t L w bb ⟨vg,vk,vc,.slice fp t.fixed.length fc,vb,qm,em,pv,n⟩ s S wr)) (λ z _=>t.fixed.length-(intOf z).toNat)
 case atStart=>exact⟨0,[],zeroS,YC _,rfl,yK ⟨rfl,B7.o⟩⟩
 case round =>
  obtain⟨k,s,S,hk,rfl,HR⟩:=hrel;by_cases hlt:k<t.fixed.length
  ·obtain⟨l,hl⟩:∃ l,t.fixed[k]?=some l:=⟨_,yb hlt⟩;obtain⟨xa,rfl,A2⟩:=HR.o.2.bd.fixed.at_ (by rintro e;rw[e]at hl;simp at hl);have A6:(Instr.loadAt 50 (.pointer (some (xa.add (k*5))))).run Tryz.prog wr=.ok (.agg (ldVals l).toArray) wr:=zn (P:=Tryz.prog) (R:=RL) underlying50 rfl sizeL A2 hl;have A3:=yK (zfy hl);clear hl A2;have c:(Tryz.prog.info? 50).map (·.size)=some (ldVals l).toArray.size:=sizeL;have r:(ldVals l).toArray.all (·.oneCell')=true:=(by simp[ldVals,Value.oneCell']);go_upto_region 4 with (first
    | (refine qo rfl 50 _ rfl rfl A6 ?_)
    | (refine wpList_store_row rfl 50 _ _ rfl wr.heap.size rfl 50 _ (ldVals l).toArray rfl (yd wr _) c rfl r ?_;rw[World.setRow_alloc_new]))
   have Z:=yd wr (.cells (ldVals l).toArray 50);have M:Bw wr (wr.alloc (.cells (ldVals l).toArray 50)):=(yf _ wr).alloc (ye _) _;have X:=HR.o.2.keep M;clear A6 M;revert Z X;generalize wr.alloc (.cells (ldVals l).toArray 50)=w2;generalize wr.heap.size=lb;intro Z X;have y:=yK (zen w2 bb _ X.bd B4.o ok.k8 B0.o l);have B2:=yK X;clear X;go_wp2_with (refine Yb rfl 50 _ rfl lb rfl 50 (ldVals l).toArray (0,0) _ Z underlying50 rfl c ?_);refine y.o.mono ?_;rintro e w3 ⟨rfl,A5⟩;have a:=B2.o.keep A5;rw[qeB];clear y Z A5;have F:(Tryz.prog.info? 108).map (·.size)=some (hsVals S).toArray.size:=sizeS;have H:(hsVals S).toArray.all (·.oneCell')=true:=(by simp[hsVals,Value.oneCell'])
   cases hft:findT t l with
   | none =>
    have v:Hid (rootT t=none):=yK (zdz (k:=k+1) (by rw[A3.o,HR.o.1];unfold stepR;rw[hft]));simp only[Option.map_none,Option.getD_none,Option.isSome_none];have K:(Tryz.prog.info? 152).map (·.size)=some (hpVals zeroP).toArray.size:=sizeP;have I:(hpVals zeroP).toArray.all (·.oneCell')=true:=(by simp[hpVals,Value.oneCell']);go_upto_region 5 with (first
     | (refine wpList_store_row rfl 152 _ _ rfl w3.heap.size rfl 152 _ (hpVals zeroP).toArray rfl (yd w3 _) K rfl I ?_;rw[World.setRow_alloc_new]))
    have A:=a.keep ((yf _ w3).alloc (ye _) (.cells (hpVals zeroP).toArray 152));revert A;clear a;generalize w3.alloc (.cells (hpVals zeroP).toArray 152)=w4;intro A;have B:=A.box;have B3:=yK A.below;clear A;go_wp2_with (first
     | (refine Yb rfl 108 _ rfl w.heap.size rfl 108 (hsVals S).toArray (0,0) _ B underlying108 rfl F ?_)
     | (refine wpList_store_row rfl 108 _ _ rfl w.heap.size rfl 108 _ (hsVals S).toArray rfl B F rfl H ?_))
    refine Yc (qH rfl underlying108 rfl _ _ w.heap.size (hsVals S).toArray (0,0) (.bool false) (setRow_heap _ _ _ _ _ _ B) F rfl rfl) rfl ?_;rw[<- q.o];exact⟨S,false,rfl,λ h=>(by cases h),λ _=>v.o,zh B3.o (ye _) _⟩
   | some p =>
    obtain⟨kk,pl,i,f,A8⟩:=zco hft;have A4:=yK (show foldR t (k+1)=putT t s p by rw[A3.o,HR.o.1];unfold stepR;rw[hft]);simp only[Option.map_some,Yw,Option.isSome_some];have K:(Tryz.prog.info? 152).map (·.size)=some (hpVals (hpT t.ground L p)).toArray.size:=sizeP;have I:(hpVals (hpT t.ground L p)).toArray.all (·.oneCell')=true:=(by simp[hpVals,Value.oneCell']);go_upto_region 5 with (first
     | (refine wpList_store_row rfl 152 _ _ rfl w3.heap.size rfl 152 _ (hpVals (hpT t.ground L p)).toArray rfl (yd w3 _) K rfl I ?_;rw[World.setRow_alloc_new]))
    have g:=yd w3 (.cells (hpVals (hpT t.ground L p)).toArray 152);have A:=a.keep ((yf _ w3).alloc (ye _) (.cells (hpVals (hpT t.ground L p)).toArray 152));revert A g;clear a;generalize w3.alloc (.cells (hpVals (hpT t.ground L p)).toArray 152)=w4;generalize w3.heap.size=pb;intro g A;have B1:=yK (zhR ok A.st A.good i f A.bd A.own);have B:=A.box;have N:=yK A;clear A;have B6:=yK (List.mem_flatten.2 ⟨pl,yg i,f⟩);clear i f A8 hft;go_wp2_with (first
     | (refine Yb rfl 108 _ rfl w.heap.size rfl 108 (hsVals S).toArray (0,0) _ B underlying108 rfl F ?_)
     | (refine Yb rfl 152 _ rfl pb rfl 152 (hpVals (hpT t.ground L p)).toArray (0,0) _ g underlying152 rfl K ?_))
    refine B1.o.mono ?_;rintro e w5 ⟨S',b,rfl,h1,h2,O⟩;have J:=(O.block _ (ya.1 N.o.box).1).trans N.o.box;have m:=N.o.below.tm O;have d:=N.o.bd.keep O;have D:(Tryz.prog.info? 108).map (·.size)=some (hsVals S').toArray.size:=sizeS;have C:(hsVals S').toArray.all (·.oneCell')=true:=(by simp[hsVals,Value.oneCell']);have C0:(hsVals S).toArray.size=(hsVals S').toArray.size:=rfl;have G:(w5.setRow w.heap.size (hsVals S').toArray).heap[w.heap.size]?=some (.cells (hsVals S').toArray 108 (0,0)):=setRow_heap _ _ _ _ _ _ J;have Y:=zh m (ye _) (hsVals S').toArray
    cases b with
    | false =>
     have v:Hid (rootT t=none):=yK (zdz (k:=k+1) (by rw[A4.o];exact h2 rfl));have B5:=yK Y;clear Y m d h1 h2 O;go_wp2_with (first
      | (refine wpList_store_row rfl 108 _ _ rfl w.heap.size rfl 108 _ (hsVals S').toArray rfl J D rfl C ?_)
      | (refine Yb rfl 108 _ rfl w.heap.size rfl 108 (hsVals S').toArray (0,0) _ G underlying108 rfl D ?_)
      | (refine wpList_store_row rfl 108 _ _ rfl w.heap.size rfl 108 _ (hsVals S').toArray rfl G D rfl C ?_))
     refine Yc (qH rfl underlying108 rfl _ _ w.heap.size (hsVals S').toArray (0,0) (.bool false) (setRow_heap _ _ _ _ _ _ G) D rfl rfl) rfl ?_;rw[<- q.o];exact⟨S',false,rfl,λ h=>(by cases h),λ _=>v.o,zh B5.o (ye _) _⟩
    | true =>
     obtain⟨q1,q2,q3⟩:=h1 rfl;have A1:∀ (j:Nat) (cs:Array Value) (T:TypeId),T≠108->w5.heap[j]?=some (.cells cs T (0,0))->(w5.setRow w.heap.size (hsVals S').toArray).heap[j]?=w5.heap[j]?:=λ j cs T hT hc=>setRow_other _ _ _ _ λ e=>by
      subst e;rw[J]at hc;simp only[yo,Yh]at hc;exact hT hc.2.1.symm
     have B8:Hid (foldR t (k+1)=some (s++[p])/\RtI t L w bb ⟨vg,vk,vc,.slice (some xa) t.fixed.length fc,vb,qm,em,pv,n⟩ (s++[p]) S' (w5.setRow w.heap.size (hsVals S').toArray)):=yK (by
      refine⟨by rw[A4.o];exact q1,G,q2,?_,zb5 N.o.good B6.o q1,B9.o.keep Y,Y⟩;refine qj (zB q3 N.o.below.size) λ j hj=>?_;obtain⟨_,_,cs,hc⟩:=qg q3 hj;exact A1 j cs _ (by decide) hc)
     clear A1 G Y m d h1 h2 O q1 q2 q3;go_wp2_with (refine wpList_store_row rfl 108 _ _ rfl w.heap.size rfl 108 _ (hsVals S').toArray rfl J D rfl C ?_)
     go_roundw
     case rel=>exact⟨k+1,s++[p],S',by omega,by go_num,B8⟩
     case measure=>simp only[intOf];omega
  obtain rfl:k=t.fixed.length:=by omega
  have F:(Tryz.prog.info? 108).map (·.size)=some (hsVals S).toArray.size:=sizeS;have H:(hsVals S).toArray.all (·.oneCell')=true:=by simp[hsVals,Value.oneCell']
  have B:=HR.o.2.box;go_wp2_with (first
   | (refine Yb rfl 108 _ rfl w.heap.size rfl 108 (hsVals S).toArray (0,0) _ B underlying108 rfl F ?_)
   | (refine wpList_store_row rfl 108 _ _ rfl w.heap.size rfl 108 _ (hsVals S).toArray rfl B F rfl H ?_))
  refine Yc (qH rfl underlying108 rfl _ _ w.heap.size (hsVals S).toArray (0,0) (.bool true) (setRow_heap _ _ _ _ _ _ B) F rfl rfl) rfl ?_;rw[<- q.o];refine⟨S,true,rfl,λ _=>⟨s,by rw[<- zdX];exact HR.o.1,HR.o.2.st,qj HR.o.2.own λ j hj=>?_,HR.o.2.good⟩,λ h=>(by cases h),zh HR.o.2.below (ye _) _⟩;obtain⟨_,_,cs,hc⟩:=qg HR.o.2.own hj;refine setRow_other _ _ _ _ λ e=>?_;subst e;rw[B]at hc;simp only[yo,Yh]at hc;exact absurd hc.2.1 (by decide)
def IterM (P:Program) (gf:Nat) (mk:Value->Array Value) (n:Nat) (N:World->Prop) (Xp:Nat->Array Value->World->Prop):Prop :=
 ∀ (l:Nat) (J:Nat->Nat->World->Prop) (Jx:World->Prop) (W:World),
  (∀ b k W W',J b k W->Bw W W'->J b k W')->(∀ W W',Jx W->Bw W W'->Jx W') ->
  (∀ b k W',J b k W'->N W') ->
  (∀ b k args W1 o,k<n->Xp k args W1->J b k W1->W.heap.size<=b->W1.heap[b]?=some o->o.isCells=true ->
   YieldAt (FW none) 0 P l args W1 λ e W'=>(e=.returned (.bool true)/\J b (k+1) W'/\W'.heap[b]?=some o)\/(e=.returned (.bool false)/\Jx W')) ->
  (∀ b W',W.heap.size<=b->Bw W W'->J b 0 W')->CallsIn (FW none) 0 P gf (mk (.func (.yield l) #[] #[])) W λ e W'=>(∃ v,e=.returned v)/\((∃ b,J b n W')\/Jx W')
theorem zff {P:Program} {ro:Option Nat} {g:Operand} {ps:Array Tmp} {assign body:Code} {Q:Exit->Act->World->Prop} {a:Act} {w:World} {gf:Nat} {mk:Value->Array Value} {n:Nat} {N:World->Prop} {Xp:Nat->Array Value->World->Prop}
  (hro:∀ l0,ro=some l0->∃ r0,w.heap[l0]?=some (.loop r0))
  (hg:∀ (l:Nat) (W:World),∃ d,(resolve a.eval (rangeCall g l) 0).run P W=.ok d W/\(invoke d.target d.args).run P W=.ok (.enter gf (mk (.func (.yield l) #[] #[]))) W)
  (hit:IterM P gf mk n N Xp) (hps:∀ k x W,Xp k x W->x.size=ps.size)
  (I:Nat->Nat->World->Prop) (Ix:Code->World->Prop) (hI:∀ b k,Stab w.heap.size (I b k)) (hIx:∀ c,Stab w.heap.size (Ix c)) (h0:∀ b W',w.heap.size<=b->Ext w.heap.size w W'->I b 0 W')
  (hN:∀ b k W,I b k W->N W)
  (hround:∀ (b l k:Nat) (x:Array Value) (W:World) (o:Obj),k<n->Xp k x W->I b k W->w.heap.size<=l->l<b->(∃ r,W.heap[l]?=some (.loop r))->W.heap[b]?=some o->o.isCells=true ->
   assign.wpIn (FW (some l)) 0 P (Exit.then (λ a' W'=>∃ X:World->Prop,Stab w.heap.size X/\KeepsFrom w.heap.size W W'/\X W'/\W'.heap[b]?=some o /\
     ∀ W2,X W2->(∃ r,W2.heap[l]?=some (.loop r))->W2.heap[b]?=some o->body.wpIn (FW (some l)) 0 P (rPostG w.heap.size I Ix b k o W2) a' W2) (λ _ _ _=>False))
    { tmps:=(ps.zip x).foldl (λ t (p,v)=>t.setIfInBounds p v) a.tmps,defers:=[] } W)
  (hdone:∀ b ds W,RMark w.heap.size ro ds W->I b n W->Q .normal { a with defers:=ds++a.defers } W)
  (hstop:∀ ds c W,RMark w.heap.size ro ds W->Ix c W->c.wpIn (FW ro) 0 P Q { a with defers:=ds++a.defers } W) :
  (Code.rangeFunc g ps assign body).wpIn (FW ro) 0 P Q a w:=by
 refine wpIn_rangeFunc ?_;intro fn hfn;obtain⟨D,l,ds,W1,B,C,V,S,i,q,m,A⟩:∃ (D l:Nat) (ds:List Deferred) (W1:World) (B:LoopState->Option Code->Loop),
   (w.heap.size<=l)/\(D≠l)/\(Instr.enterLoop fn a.tmps ps assign body (FW ro).round).run P w=.ok (l,ds) W1/\W1.heap[l]?=some (.loop (B .ready none))/\Ext w.heap.size w W1 /\
   (∀ W,(ro=none->W.heap[D]?=some (.deferred (some [])))->RMark w.heap.size ro ds W) /\
   ((ro=none->w.heap.size<=D/\W1.heap[D]?=some (.deferred (some [])))/\∀ st pe,(B st pe).state=st/\(B st pe).pending=pe/\(B st pe).fn=fn/\(B st pe).tmps=a.tmps/\(B st pe).params=ps/\(B st pe).assign=assign/\(B st pe).body=body /\
    ∀ st' pe',{ B st pe with state:=st',pending:=pe' }=B st' pe'):=by
  cases ro with
  | none =>
   refine⟨w.heap.size,w.heap.size+1,[{ target:=.collected w.heap.size,args:=#[] }],_,λ st pe=>{ state:=st,pending:=pe,fn,tmps:=a.tmps,params:=ps,assign,body,defers:=w.heap.size },by omega,by omega,run_enterLoop_outer _ _ _ _ _,?_,?_,?_,?_,?_⟩
   ·have:=yd (w.alloc (.deferred (some []))) (.loop { state:=.ready,pending:=none,fn,tmps:=a.tmps,params:=ps,assign,body,defers:=w.heap.size });rwa [yp]at this
   ·exact Ext.of_below (((yf _ w).alloc (ye _) _).alloc (by simp) _)
   ·intro W h;exact⟨w.heap.size,ye _,rfl,h rfl⟩
   ·intro _;exact⟨ye _,(Below.heap_alloc _ _ _ (by simp)).trans (yd w _)⟩
   intro st pe;exact⟨rfl,rfl,rfl,rfl,rfl,rfl,rfl,λ _ _=>rfl⟩
  | some l0 =>
   obtain⟨r0,A7⟩:=hro l0 rfl;refine⟨w.heap.size+1,w.heap.size,[],_,λ st pe=>{ state:=st,pending:=pe,fn,tmps:=a.tmps,params:=ps,assign,body,defers:=r0.defers },ye _,by omega,run_enterLoop_inner A7 _ _ _ _ _,?_,?_,?_,?_,?_⟩
   ·exact yd w _
   ·exact Ext.of_below ((yf _ w).alloc (ye _) _)
   ·intro W _;exact rfl
   ·intro h;cases h
   intro st pe;exact⟨rfl,rfl,rfl,rfl,rfl,rfl,rfl,λ _ _=>rfl⟩
 obtain⟨U,A⟩:=A;obtain⟨d,z,s⟩:=hg l W1;refine⟨l,ds,W1,d,W1,gf,_,W1,S,z,λ _ _=>trivial,s,λ h=>by simp at h,?_⟩;have Y:=hit l
  (λ b k W=>I b k W/\W.heap[l]?=some (.loop (B .ready none))/\(ro=none->W.heap[D]?=some (.deferred (some []))))
  (λ W=>∃ c,Ix c W/\W.heap[l]?=some (.loop (B .done (some c)))/\(ro=none->W.heap[D]?=some (.deferred (some []))))
  W1
  (λ b k W W' ⟨h1,h2,h3⟩ hb=>⟨hI b k W W' h1 (Ext.of_below hb),(hb.block l (ya.1 h2).1).trans h2,λ e=>(hb.block D (ya.1 (h3 e)).1).trans (h3 e)⟩)
  (λ W W' ⟨c,h1,h2,h3⟩ hb=>⟨c,hIx c W W' h1 (Ext.of_below hb),(hb.block l (ya.1 h2).1).trans h2,λ e=>(hb.block D (ya.1 (h3 e)).1).trans (h3 e)⟩)
  (λ b k W' ⟨h1,_⟩=>hN b k W' h1) ?_ (λ b W' hb hB=>⟨h0 b W' (yJ q.size hb) (q.trans (Ext.of_below hB)),(hB.block l (ya.1 i).1).trans i,λ e=>(hB.block D (ya.1 (U e).2).1).trans (U e).2⟩)
 ·refine CallsIn.mono (F:=FW ro) (R:=_) Y ?_;rintro e W2 ⟨⟨v,rfl⟩,(⟨b,hi,hl,hk⟩|⟨c,hi,hl,hk⟩)⟩
  ·have J:=run_endLoop (P:=P) hl (by rw[(A _ _).1];simp);rw[(A _ _).2.1]at J;refine⟨none,_,J,hdone b ds _ (m _ λ e=>?_) (hI _ _ _ _ hi (Ext.putObj hl C rfl))⟩;rw[yR V];exact hk e
  have J:=run_endLoop (P:=P) hl (by rw[(A _ _).1];simp);rw[(A _ _).2.1]at J;refine⟨some c,_,J,hstop ds c _ (m _ λ e=>?_) (hIx _ _ _ hi (Ext.putObj hl C rfl))⟩;rw[yR V];exact hk e
 ·-- one round
  rintro b k x W o hkn hx ⟨hi,hl,hk⟩ hbW hob hoc;have A5:l<b:=yO (ya.1 i).1 hbW;have j:b≠l:=by omega
  have hy:=run_yield (P:=P) (args:=x) hl (by rw[(A _ _).2.2.2.2.1];exact hps k x W hx);rw[(A _ _).2.2.1,(A _ _).2.2.2.1,(A _ _).2.2.2.2.1,(A _ _).2.2.2.2.2.1,(A _ _).2.2.2.2.2.2.1]at hy;refine⟨fn,_,assign,body,hy,roundIn_of_wpIn (F:=FW none) hfn ?_⟩;have hA:=hround b l k x W o hkn hx hi C A5 ⟨_,hl⟩ hob hoc;refine wpIn_mono hA ?_;intro e a' Wa hp
  cases e with
  | normal =>
   obtain⟨X,hX,O,A6,A2,f⟩:=hp;have Z:=O.same l _ C hl rfl;have A4:ro=none->Wa.heap[D]?=some (.deferred (some [])):=λ e=>O.same D _ (U e).1 (hk e) rfl;refine⟨_,run_beginRound Z (by rw[(A _ _).1]),?_⟩;have e1:({ B .ready none with state:=.busy }:Loop)=B .busy none:=by
    have h8:=(A .ready none).2.2.2.2.2.2.2 .busy none;have h2:=(A .ready none).2.1;simp only[h2];exact h8
   rw[e1];have A1:l<Wa.heap.size:=(ya.1 Z).1;have y:(Wa.putObj l (.loop (B .busy none))).heap[l]?=some (.loop (B .busy none)):=World.putObj_heap_same A1;have A0:ro=none->(Wa.putObj l (.loop (B .busy none))).heap[D]?=some (.deferred (some [])):=λ e=>(yR V).trans (A4 e);refine wpIn_mono (f _ (hX _ _ A6 (Ext.putObj Z C rfl)) ⟨_,y⟩ ((yR j).trans A2)) ?_;have T:∀ (jump:Option Code) (W3:World),KeepsFrom w.heap.size (Wa.putObj l (.loop (B .busy none))) W3 ->
     W3.heap[l]?=some (.loop (B .busy none)) /\
     (Instr.endRound l jump).run P W3=.ok (.bool jump.isNone) (W3.putObj l (.loop (B (if jump.isNone then .ready else .done) jump))) /\
     (W3.putObj l (.loop (B (if jump.isNone then .ready else .done) jump))).heap[l]?=some (.loop (B (if jump.isNone then .ready else .done) jump)) /\
     (ro=none->(W3.putObj l (.loop (B (if jump.isNone then .ready else .done) jump))).heap[D]?=some (.deferred (some []))):=λ jump W3 H=>by
    have G:=H.same _ _ C y rfl;have h4:=run_endRound (P:=P) jump G;rw[(A .busy none).2.2.2.2.2.2.2]at h4;exact⟨G,h4,World.putObj_heap_same (ya.1 G).1,λ e=>(yR V).trans (H.same _ _ (U e).1 (A0 e) rfl)⟩
   intro e a3 W3 hp
   cases e with
   | normal =>
    obtain⟨H,L,A3⟩:=hp;obtain⟨G,hr,K,M⟩:=T none W3 H;exact⟨_,_,hr,.inl ⟨rfl,⟨hI _ _ _ _ L (Ext.putObj G C rfl),K,M⟩,(yR j).trans A3⟩⟩
   | ret =>
    obtain⟨H,L⟩:=hp;obtain⟨G,hr,K,M⟩:=T (some .ret) W3 H;exact⟨_,_,hr,.inr ⟨rfl,.ret,hIx _ _ _ L (Ext.putObj G C rfl),K,M⟩⟩
   | exit id =>
    obtain⟨H,L⟩:=hp;obtain⟨G,hr,K,M⟩:=T (some (.exit id)) W3 H;exact⟨_,_,hr,.inr ⟨rfl,.exit id,hIx _ _ _ L (Ext.putObj G C rfl),K,M⟩⟩
   | goto t =>
    obtain⟨H,L⟩:=hp;obtain⟨G,hr,K,M⟩:=T (some (.goto t)) W3 H;exact⟨_,_,hr,.inr ⟨rfl,.goto t,hIx _ _ _ L (Ext.putObj G C rfl),K,M⟩⟩
   | panic ch=>exact hp.elim
   | outgrown=>exact hp.elim
  | exit id=>exact hp.elim
  | goto t=>exact hp.elim
  | ret=>exact hp.elim
  | panic ch=>exact hp.elim
  | outgrown=>exact hp.elim
def smallQ (q:Q):Prop:=(0<=q.x/\q.x<100)/\(0<=q.y/\q.y<100)/\0<=q.s/\q.s<100
theorem zhu {q:Q} (h:inQ q):smallQ q:=by unfold inQ at h;unfold smallQ;omega
theorem encQw:KeyEnc Tryz.prog 56 Q.val smallQ where
 law:=lawQ
 key q ok:=by
  obtain⟨d,hd⟩:=qbQ;obtain⟨⟨h1,h2⟩,⟨h3,h4⟩,h5,h6⟩:=ok;refine qaO (by kernel_rfl) (by kernel_rfl) (by rw[cellsQ];rfl) ?_;rw[hd];refine zaL (d+3) underlying56 (by rw[cellsQ];rfl) (by kernel_rfl) (λ f hf=>?_);simp only[Ye,List.not_mem_nil,or_false]at hf;rcases hf with rfl|rfl|rfl
  ·rw[cellsI];exact zK (d+2) underlying3 (zav h1 h2)
  ·rw[cellsI];exact zK (d+2) underlying3 (zav h3 h4)
  rw[cellsI];exact zK (d+2) underlying3 (zav h5 h6)
 inj x y _ _ h:=by
  simp only[Q.val,Value.agg.injEq,Array.mk.injEq,List.cons.injEq,Value.int.injEq,true_and,and_true]at h;exact Q.ext' h.1 h.2.1 h.2.2
def bdQ (q:Q):Prop:=(-15<=q.x/\q.x<=15)/\(-15<=q.y/\q.y<=15)/\0<=q.s/\q.s<=3
theorem qb5 {q:Q} (h:inQ q):bdQ q:=by unfold inQ at h;unfold bdQ;omega
theorem zgt {q:Q} (h:bdQ q):bdQ (trM q):=by unfold bdQ at *;unfold trM;simp only;omega
theorem zif {q:Q} (h:bdQ q):bdQ (trT q):=by unfold bdQ at *;unfold trT;simp only;omega
theorem qdi {q:Q} (h:bdQ q):∀ n,bdQ (trN n q)
 | 0=>h
 | n+1=>zif (qdi h n)
theorem qiv {q:Q} (h:bdQ q) (m:Bool) (n:Nat):bdQ (tr m n q):=by
 unfold tr;split
 ·exact qdi (zgt h) n
 exact qdi h n
theorem zbn (f:Q->Int):∀ (l:List Q) (m:Int),(l.foldl (λ m q=>min m (f q)) m<=m/\∀ q∈l,l.foldl (λ m q=>min m (f q)) m<=f q)/\(l.foldl (λ m q=>min m (f q)) m=m\/∃ q∈l,l.foldl (λ m q=>min m (f q)) m=f q)
 | [],m=>⟨⟨Int.le_refl _,λ q hq=>by cases hq⟩,.inl rfl⟩
 | a :: l,m=>by
  obtain⟨⟨h1,h2⟩,h3⟩:=zbn f l (min m (f a));simp only[Yv];refine⟨⟨by omega,λ q hq=>?_⟩,?_⟩
  ·rcases Ye.1 hq with rfl|hq
   ·omega
   exact h2 q hq
  rcases h3 with h3|⟨q,hq,h3⟩
  ·by_cases hm:m<=f a
   ·left;omega
   right;exact⟨a,by simp,by omega⟩
  right;exact⟨q,by simp[hq],h3⟩
def zU (f:Q->Int) (L:List Q) (i:Nat):Int:=(L.take i).foldl (λ m q=>min m (f q)) 16
theorem qbr {f:Q->Int} {L:List Q} {i:Nat} {q:Q} (h:L[i]?=some q):zU f L (i+1)=min (zU f L i) (f q):=by
 unfold zU;rw[zl h,List.foldl_append];rfl
theorem qa9 {f:Q->Int} {L:List Q} (h:∀ q∈L,-15<=f q) (i:Nat):-15<=zU f L i/\zU f L i<=16:=by
 obtain⟨⟨h1,_⟩,h3⟩:=zbn f (L.take i) 16;unfold zU;refine⟨?_,h1⟩;rcases h3 with h3|⟨q,hq,h3⟩
 ·omega
 have:=h q (Yy hq);omega
theorem zbN {f:Q->Int} {L:List Q} (h0:L≠[]) (h:∀ q∈L,f q<=15):zU f L L.length=minL f L:=by
 obtain⟨⟨h1,h2⟩,h3⟩:=zbn f L 16;unfold zU;rw[Yd];refine (za6 ?_ h2).symm;rcases h3 with h3|⟨q,hq,h3⟩
 ·cases L with
  | nil=>exact absurd rfl h0
  | cons a l =>
   have:=h a (by simp);have:=h2 a (by simp);omega
 exact⟨q,hq,h3.symm⟩
def waysN (g:List Q) (i:Nat):List (List Nat):=(List.range i).filterMap (wayT g)
theorem zcg {g:List Q} {i:Nat} {w:List Nat} (h:wayT g i=some w):waysN g (i+1)=waysN g i++[w]:=by
 unfold waysN;rw[Yl,List.filterMap_append];simp[h]
theorem qdv {g:List Q} {i:Nat} (h:wayT g i=none):waysN g (i+1)=waysN g i:=by
 unfold waysN;rw[Yl,List.filterMap_append];simp[h]
theorem zg5 {g:List Q} {i j:Nat} (h:i<=j):∃ l,waysN g j=waysN g i++l:=by
 induction j with
 | zero=>obtain rfl:i=0:=by omega
         exact⟨[],by simp⟩
 | succ j ih =>
  by_cases e:i=j+1
  ·subst e;exact⟨[],by simp⟩
  obtain⟨l,hl⟩:=ih (by omega)
  cases hw:wayT g j with
  | none=>exact⟨l,by rw[qdv hw,hl]⟩
  | some w=>exact⟨l++[w],by rw[zcg hw,hl,List.append_assoc]⟩
theorem zdV {g:List Q} {i:Nat} {w:List Nat} (hi:i<8) (h:wayT g i=some w):(waysT g)[(waysN g i).length]?=some w:=by
 obtain⟨l,hl⟩:=zg5 (g:=g) (show i+1<=8 by omega);have:waysT g=waysN g 8:=rfl;rw[this,hl,zcg h];simp
def imgT (g:List Q) (i:Nat):List Q:=g.map (tr (decide (4<=i)) (i % 4))
def atT (g:List Q) (dx dy:Int) (q:Q):Option Nat:=g.findIdx? λ r=>decide (r=sh dx dy q)
theorem qfw (g:List Q) (i:Nat):wayT g i=(imgT g i).mapM (atT g (leftL g-leftL (imgT g i)) (lowL g-lowL (imgT g i))):=rfl
theorem qd5 {α β:Type} (f:α->Option β) (l:List α) (x:α):(l++[x]).mapM f=(l.mapM f).bind λ a=>(f x).map λ b=>a++[b]:=by
 rw[List.mapM_append]
 cases l.mapM f <;> cases h:f x <;> simp[h]
theorem zdL {α β:Type} {f:α->Option β} {l:List α} {i:Nat} (h:(l.take i).mapM f=none):l.mapM f=none:=by
 rw[<- List.take_append_drop i l,List.mapM_append,h];rfl
theorem qcl {α β:Type} {f:α->Option β} {l:List α} {T:List β} (h:l.mapM f=some T):T.length=l.length:=by
 induction l generalizing T with
 | nil=>simp at h;subst h;rfl
 | cons a l ih =>
  rw[List.mapM_cons]at h
  cases hf:f a with
  | none=>rw[hf]at h;cases h
  | some b =>
   cases hl:l.mapM f with
   | none=>rw[hf,hl]at h;cases h
   | some T' =>
    rw[hf,hl]at h
    cases h
    simp[ih hl]
theorem zeB {g:List Q} {dx dy:Int} {q:Q} {n:Nat} (h:atT g dx dy q=some n):g[n]?=some (sh dx dy q)/\n<g.length:=by
 obtain⟨hn,h1,_⟩:=List.findIdx?_eq_some_iff_getElem.1 h;simp only[yS]at h1;exact⟨by rw[yb hn,h1],hn⟩
theorem zhm {g:List Q} {dx dy:Int} {q:Q} (h:atT g dx dy q=none):sh dx dy q∉g:=by
 unfold atT at h;rw[List.findIdx?_eq_none_iff]at h;intro hq;have:=h _ hq;simp at this
theorem qdj:(Tryz.prog.info? 3).map (λ i=>(i.zero,i.size,i.bytes))=some (some (.int .i64 0),1,8):=by kernel_rfl
theorem zgi (W:World) (v:Value) (T:TypeId):∀ (j:Nat) (u:Value),([v]:List Value)[j]?=some u->(W.alloc (.cells #[v] T)).cell? ((⟨W.heap.size,0,none⟩:Addr).add j)=some u :=
 zI (yd W (.cells ([v]:List Value).toArray T))
theorem zdZ {W:World} {tb:Nat} {a b c:Value} {T:TypeId} (h:W.heap[tb]?=some (.cells #[a,b,c] T)) (u:Value):(W.setCell ⟨tb,0,none⟩ u).heap[tb]?=some (.cells #[u,b,c] T):=by
 rw[yI W tb 0 _ _ u h];rfl
theorem qd1 {W:World} {tb:Nat} {a b c:Value} {T:TypeId} (h:W.heap[tb]?=some (.cells #[a,b,c] T)) (u:Value):(W.setCell ⟨tb,1,none⟩ u).heap[tb]?=some (.cells #[a,u,c] T):=by
 rw[yI W tb 1 _ _ u h];rfl
theorem zf9 {W:World} {tb:Nat} {a b c:Value} {T:TypeId} (h:W.heap[tb]?=some (.cells #[a,b,c] T)) (u:Value):(W.setCell ⟨tb,2,none⟩ u).heap[tb]?=some (.cells #[a,b,u] T):=by
 rw[yI W tb 2 _ _ u h];rfl
structure SyI (B:Nat) (w W:World) (u:Value) (L:List Q):Prop where
 own:OwnQ W B u L
 below:Below B w W
 base:B<=W.heap.size
theorem SyI.keep {B:Nat} {w W W':World} {u:Value} {L:List Q} (h:SyI B w W u L) (e:Bw W W'):SyI B w W' u L :=
 ⟨h.own.below e,h.below.trans (e.mono h.base),yJ h.base e.size⟩
theorem SyI.cell {B:Nat} {w W:World} {u:Value} {L:List Q} (h:SyI B w W u L) {b:Nat} (hb:B<=b) (hu:u.ownBlock≠some b) (j:Nat) (z:Value):SyI B w (W.setCell ⟨b,j,none⟩ z) u L:=by
 refine⟨World.ownsRow.kept (row:=some b) h.own ⟨rfl,rfl,rfl,by simp,λ k _ hk=>yq W ⟨b,j,none⟩ k z (λ e=>hk (by rw[e]))⟩ ?_,h.below.setCell (by simp;omega) _,by simpa using h.base⟩;by_cases hv:u.ownBlock=none
 ·exact .inl hv
 exact .inr hu
theorem SyI.grow {B:Nat} {w W W':World} {u u':Value} {L L':List Q} (h:SyI B w W u L) {g:Option Nat} (hg:W.grownBy W' g) (hb:∀ k,g=some k->B<=k) (ho:OwnQ W' B u' L'):SyI B w W' u' L' :=
 ⟨ho,h.below.grown hg h.base hb,yJ h.base hg.size⟩
def WyP (g:List Q) (k:Nat) (x:Array Value) (W:World):Prop:=∃ (v:Value) (way:List Nat),(waysT g)[k]?=some way/\x=#[v]/\RI.Own W 0 v (way.map λ n:Nat=>(n:Int))
theorem qdE {t:Tk} {L:List E} (hgr:checkN t.ground=0) (h64:t.ground.length<=64) (bb:Nat) (bv:BV) (ps:List (List HP)) (bel:W3) :
  IterM Tryz.prog 39 (λ y=>#[.pointer (some ⟨bb,0,none⟩),y]) (waysT t.ground).length (λ W=>BdAt W bb bv t L ps bel) (WyP t.ground):=by
 intro l J Jx W hJ hJx hN hY h0;obtain⟨vg,vk,vc,vf,vb,qm,em,pv,O3⟩:=bv;have U:=yK (qh hgr).1.1;have N5:=yK (qh hgr).1.2;have A2:=yK (qh hgr).2.1;have HJ:=yK hJ;clear hJ;have O1:=yK hJx;clear hJx;have HN:=yK hN;clear hN;have HY:=yK hY;clear hY;have H0:=yK h0;clear h0;have H:=HN.o _ _ _ (H0.o W.heap.size W (ye _) (yf _ W));obtain⟨gp,gc,I1⟩:=H.ground.slice;simp only at I1;subst I1;obtain⟨ga,rfl,C4⟩:∃ ga,gp=some ga/\QsAt W ga t.ground:=by
  rcases H.ground with⟨_,h⟩|⟨a,c,h1,_,_,h4⟩
  ·exact absurd h A2.o
  simp only[yC]at h1;exact⟨a,h1.1,h4⟩
 have C8:=yK C4;clear C4;have G6:=yd W (.cells #[.int .i64 16,.int .i64 16,.int .i64 0] 56);have G2:Bw W (W.alloc (.cells #[.int .i64 16,.int .i64 16,.int .i64 0] 56)):=(yf _ W).alloc (ye _) _;have N:=H.blk;simp only at N;have b0:(W.alloc (.cells #[.int .i64 16,.int .i64 16,.int .i64 0] 56)).cell? ⟨bb,0,none⟩=some (.slice (some ga) t.ground.length gc):=by
  simp only[World.cell?,heapO _ N];rfl
 clear H N;refine callsIn_of_wp func39 rfl trivial ?_ rfl;simp only[ntmps39,List.size_toArray,yA,yN,Nat.reduceAdd,Nat.reduceSub,Array.replicate_succ,Array.replicate_zero,List.push_toArray,List.append_toArray,Yk,Yg];gi_wp2_with fail;have H1:=yK (And.intro G2 G6);clear G2 G6 b0;revert H1;generalize W.alloc (.cells #[.int .i64 16,.int .i64 16,.int .i64 0] 56)=w1;intro H1
 gi_loopw [25] (λ z wr=>∃ i:Nat,i<=t.ground.length/\z=.int .i64 i/\Hid (Bw W wr/\wr.heap[W.heap.size]?=some (.cells #[.int .i64 (zU (·.x) t.ground i),.int .i64 (zU (·.y) t.ground i),.int .i64 0] 56))) (λ z _=>t.ground.length-(intOf z).toNat)
 case atStart=>exact⟨0,by omega,rfl,H1⟩
 case round =>
  clear H1;obtain⟨i,hi,rfl,HR⟩:=hrel;by_cases hlt:i<t.ground.length
  ·obtain⟨q,hq⟩:∃ q,t.ground[i]?=some q:=⟨_,yb hlt⟩;have H:=qb5 (U.o q (yg hq));have F:=C8.o.below HR.o.1;have c0:=F.at0 i q hq;have c1:=F.at1 i q hq;have c2:=F.at2 i q hq;have V:Hid (zU (·.x) t.ground (i+1)=min (zU (·.x) t.ground i) q.x):=yK (qbr hq);have S:Hid (zU (·.y) t.ground (i+1)=min (zU (·.y) t.ground i) q.y):=yK (qbr hq);obtain⟨B,D⟩:=qa9 (f:=(·.x)) (λ q hq=>(qb5 (U.o q hq)).1.1) i;obtain⟨A,C⟩:=qa9 (f:=(·.y)) (λ q hq=>(qb5 (U.o q hq)).2.1.1) i;obtain⟨hB,hO⟩:=HR.o;clear F hq HR;obtain⟨qx,qy,qs⟩:=q;simp only at c0 c1 c2 V S;unfold bdQ at H;simp only at H;obtain⟨⟨M2,N6⟩,⟨M1,M0⟩,J2,M5⟩:=H;revert B D A C V S hO;generalize zU (·.x) t.ground i=X;generalize zU (·.y) t.ground i=Y;intro B D A C hO V S;have e1:(if qx<X then qx else X)=min X qx:=by split <;> omega
   have e2:(if qy<Y then qy else Y)=min Y qy:=by split <;> omega
   have D3:=hB.alloc hB.size (.cells #[.int .i64 qx,.int .i64 qy,.int .i64 qs] 56);have A3:=heapO (.cells #[.int .i64 qx,.int .i64 qy,.int .i64 qs] 56) hO;have A8:=yd wr (.cells #[.int .i64 qx,.int .i64 qy,.int .i64 qs] 56);have O:wr.heap.size≠W.heap.size:=(by have:=(ya.1 hO).1;omega);clear hB hO
   gi_upto_region 4 with fail
   clear c0 c1 c2;revert D3 A3 A8;generalize wr.alloc (.cells #[.int .i64 qx,.int .i64 qy,.int .i64 qs] 56)=w3;intro D3 A3 A8;have o0:w3.cell? ⟨W.heap.size,0,none⟩=some (.int .i64 X):=(by simp[World.cell?,A3]);have o1:w3.cell? ⟨W.heap.size,1,none⟩=some (.int .i64 Y):=(by simp[World.cell?,A3]);have q0:w3.cell? ⟨wr.heap.size,0,none⟩=some (.int .i64 qx):=(by simp[World.cell?,A8]);have q1:w3.cell? ⟨wr.heap.size,1,none⟩=some (.int .i64 qy):=(by simp[World.cell?,A8]);have F4:(w3.drewN 1).heap[W.heap.size]?=_:=A3;have g:=zdZ F4 (.int .i64 (min X qx));have C6:=qd1 g (.int .i64 (min Y qy));have b:=yK (run_store_int (P:=Tryz.prog) (T:=3) (k:=.i64) (n:=min X qx) sizeOf3 (w:=w3.drewN 1) (q:=⟨W.heap.size,0,none⟩) o0 (frozen_of_row _ _ 0 _ _ F4));have D4:Bw W (((w3.drewN 1).setCell ⟨W.heap.size,0,none⟩ (.int .i64 (min X qx))).setCell ⟨W.heap.size,1,none⟩ (.int .i64 (min Y qy))):=((D3.trans (below_drewN W.heap.size w3 1)).setCell (by simp) _).setCell (by simp) _;have E0:((w3.drewN 1).setCell ⟨W.heap.size,0,none⟩ (.int .i64 (min X qx))).cell? ⟨wr.heap.size,1,none⟩=some (.int .i64 qy):=(cell_of_block (x:=⟨wr.heap.size,1,none⟩) (yq _ _ _ _ O)).trans q1;revert g C6 D4 b E0;generalize (w3.drewN 1).setCell ⟨W.heap.size,0,none⟩ (.int .i64 (min X qx))=w5;intro g C6 b D4 E0;have H6:w5.cell? ⟨W.heap.size,1,none⟩=some (.int .i64 Y):=(by simp[World.cell?,g]);have C1:=yK (run_store_int (P:=Tryz.prog) (T:=3) (k:=.i64) (n:=min Y qy) sizeOf3 (w:=w5) (q:=⟨W.heap.size,1,none⟩) H6 (frozen_of_row _ _ 1 _ _ g));have HH:=yK (And.intro D4 C6);clear D4 C6 g H6 F4 A3 A8 D3;refine qaF [11,13] [0,0,0,0,0,0,0,1,1,1,0,0,1,0] (by kernel_rfl) (by kernel_rfl) (λ m w'=>match m with|0=>∃ n,w'=w3.drewN n|1=>∃ n,w'=w5.drewN n|_=>True) ⟨1,rfl⟩ ?_
   repeat (first|(refine zaa (by rfl) ?_)|(refine zaX (by rfl) (by rfl) (by rfl) ?_;(try dsimp only);go_big_quiet_step (fail);refine wpQuiet_nil ?_)|(refine qbh (by rfl) (by decide) (by rfl) rfl ?_;(try dsimp only);go_big_quiet_step (fail);refine wpQuiet_nil ?_;go_big_quiet_step (fail);refine wpQuiet_nil ⟨rfl,?_⟩))
   refine zaU ?_;refine qK rfl rfl rfl rfl rfl b.o ⟨0,rfl⟩ ?_;refine qK rfl rfl rfl rfl rfl C1.o trivial ?_;refine zax ?_;clear o0 o1 q0 q1 E0 b C1 O e1 e2;gi_wp2_with fail
   go_roundw
   case rel=>exact⟨i+1,by omega,by go_num,yK ⟨HH.o.1,by rw[V.o,S.o];exact HH.o.2⟩⟩
   case measure=>simp[intOf];omega
  obtain rfl:i=t.ground.length:=by omega
  have hR:=HR.o;rw[zbN A2.o (λ q hq=>(qb5 (U.o q hq)).1.2),zbN A2.o (λ q hq=>(qb5 (U.o q hq)).2.1.2)]at hR;have K:Hid (J W.heap.size (waysN t.ground 0).length wr/\wr.heap[W.heap.size]?=some (.cells #[.int .i64 (leftL t.ground),.int .i64 (lowL t.ground),.int .i64 0] 56)/\W.heap.size<wr.heap.size) :=
   yK ⟨H0.o _ _ (ye _) hR.1,hR.2,(ya.1 hR.2).1⟩
  clear HR hR H0;have M8:0<=leftL t.ground/\leftL t.ground<=15:=by
   obtain⟨q,hq,e⟩:=zaF (·.x) A2.o;have:=U.o q hq;unfold inQ at this;unfold leftL;omega
  have M7:0<=lowL t.ground/\lowL t.ground<=15:=by
   obtain⟨q,hq,e⟩:=zaF (·.y) A2.o;have:=U.o q hq;unfold inQ at this;unfold lowL;omega
  obtain⟨gx,B7⟩:∃ gx,leftL t.ground=gx:=⟨_,rfl⟩;obtain⟨gy,C2⟩:∃ gy,lowL t.ground=gy:=⟨_,rfl⟩;rw[B7]at K M8;rw[C2]at K M7;have M9:=yK B7;clear B7;have N4:=yK C2;clear C2;gi_wp2_with fail
  gi_loopw [42] (λ z wr=>∃ i:Nat,i<=8/\z=.int .i64 i/\Hid (J W.heap.size (waysN t.ground i).length wr/\wr.heap[W.heap.size]?=some (.cells #[.int .i64 gx,.int .i64 gy,.int .i64 0] 56)/\W.heap.size<wr.heap.size)) (λ z _=>8-(intOf z).toNat)
  case atStart=>exact⟨0,by omega,rfl,K⟩
  clear K;obtain⟨i,hi,rfl,HR⟩:=hrel;by_cases hlt:i<8
  ·have H:=HN.o _ _ _ HR.o.1;have N:=H.blk;simp only at N;have b0:wr.cell? ⟨bb,0,none⟩=some (.slice (some ga) t.ground.length gc):=(by simp only[World.cell?,N];rfl);have C4:QsAt wr ga t.ground:=by
    rcases H.ground with⟨h,_⟩|⟨a,c,h1,_,_,h4⟩
    ·cases h
    simp only[yC,yo]at h1;rw[h1.1];exact h4
   have C8:=yK C4;clear C4;have L9:=yK H;clear H N;obtain⟨m,hm⟩:∃ m,decide (4<=i)=m:=⟨_,rfl⟩;obtain⟨k,hk⟩:∃ k,i % 4=k:=⟨_,rfl⟩;have G7:((i:Int) % 4)=(k:Int):=(by omega);have J4:k<4:=(by omega);have B8:decide ((4:Int)<=i)=m:=(by rw[<- hm,decide_eq_decide];omega);have D6:Hid (imgT t.ground i=t.ground.map (tr m k)):=yK (by unfold imgT;rw[hm,hk]);have H2:Hid (SyI wr.heap.size wr wr (.slice none 0 0) ((t.ground.take 0).map (tr m k))):=yK ⟨⟨rfl,.inl ⟨rfl,rfl⟩⟩,yf _ _,ye _⟩;have C9:=yK (λ q hq=>qiv (qb5 (U.o q hq)) m k);clear hm hk;obtain⟨wo,E9⟩:∃ wo:World,wo=wr:=⟨_,rfl⟩;gi_wp2_with fail;have H7:decide ((i:Int)<8)=true:=yw (by omega);rw[H7];clear H7
   gi_loopw [8,9,10,51] (λ u u1 u2 z wr=>∃ j:Nat,j<=t.ground.length/\z=.int .i64 j/\u1=.int .i64 (zU (·.x) (t.ground.map (tr m k)) j)/\u2=.int .i64 (zU (·.y) (t.ground.map (tr m k)) j)/\Hid (SyI wo.heap.size wo wr u ((t.ground.take j).map (tr m k)))) (λ _ _ _ z _=>t.ground.length-(intOf z).toNat)
   case atStart=>exact⟨0,by omega,rfl,rfl,rfl,by rw[E9];exact H2⟩
   clear H2 b0;rw[<- E9]at HR C8 L9;clear E9;have D9:=HR;clear HR;obtain⟨j,hj,rfl,rfl,rfl,HR⟩:=hrel;have A9:((t.ground.take j).map (tr m k)).length=j:=(by rw[yB,Yf];omega);obtain⟨p',c',rfl⟩:=zf HR.o.own;rw[A9]at HR ⊢;by_cases hlt:j<t.ground.length
   ·obtain⟨q,hq⟩:∃ q,t.ground[j]?=some q:=⟨_,yb hlt⟩;have H9:=U.o q (yg hq);have F1:=yK (qb5 H9);clear H9;have F:=C8.o.below HR.o.below;have c0:=F.at0 j q hq;have c1:=F.at1 j q hq;have c2:=F.at2 j q hq;have E6:Hid ((Value.slice p' j c').ownBlock≠some wr.heap.size):=yK (λ e=>by have:=(HR.o.own.lt _ e).2;omega);have B2:(t.ground.map (tr m k))[j]?=some (tr m k q):=(by rw[yQ,hq];rfl);have V:Hid (zU (·.x) (t.ground.map (tr m k)) (j+1)=min (zU (·.x) (t.ground.map (tr m k)) j) (tr m k q).x):=yK (qbr B2);have S:Hid (zU (·.y) (t.ground.map (tr m k)) (j+1)=min (zU (·.y) (t.ground.map (tr m k)) j) (tr m k q).y):=yK (qbr B2);have R:∀ q∈t.ground.map (tr m k),bdQ q:=λ q hq=>by
     obtain⟨p,hp,rfl⟩:=yP.1 hq;exact C9.o p hp
    obtain⟨B,D⟩:=qa9 (f:=(·.x)) (λ q hq=>(R q hq).1.1) j;obtain⟨A,C⟩:=qa9 (f:=(·.y)) (λ q hq=>(R q hq).2.1.1) j;have B4:Hid ((t.ground.take (j+1)).map (tr m k)=(t.ground.take j).map (tr m k)++[tr m k q]):=yK (by rw[zl hq,Ym];rfl);have M3:=yK (C9.o q (yg hq));clear F hq B2 R;obtain⟨q1,D2⟩:∃ q1:Q,q1=if m then trM q else q:=⟨_,rfl⟩
    have e1:tr m k q=trN k q1:=(by rw[D2];rfl);have L2:Hid (bdQ q1):=yK (by rw[D2];split;exact zgt F1.o;exact F1.o);rw[e1]at V S B4 M3;clear e1;obtain⟨qx,qy,qs⟩:=q;simp only at c0 c1 c2;have A1:=F1.o;unfold bdQ at A1;simp only at A1;obtain⟨⟨M6,N3⟩,⟨L8,L6⟩,L4,J9⟩:=A1;have I4:=yK D2;clear D2;revert B D A C V S;generalize zU (·.x) (t.ground.map (tr m k)) j=X;generalize zU (·.y) (t.ground.map (tr m k)) j=Y;intro B D A C S V;obtain⟨wq,rfl⟩:∃ wq:World,wq=wr:=⟨_,rfl⟩;have D8:wo.heap.size<=wq.heap.size:=HR.o.base;rcases (by cases m;exact .inl rfl;exact .inr rfl:m=false\/m=true)with hm|hm
    all_goals
     rw[hm]at B8
     have HM:=yK hm
     clear hm
     gi_wp2_with fail
     gi_loopw [69] (λ z W3=>∃ (k':Nat) (x' y' s':Int),k'<=k/\z=.int .i64 k'/\Hid ((⟨x',y',s'⟩:Q)=trN k' q1/\W3.heap[wq.heap.size]?=some (.cells #[.int .i64 x',.int .i64 y',.int .i64 s'] 56)/\SyI wo.heap.size wo W3 (.slice p' j c') ((t.ground.take j).map (tr m k)))) (λ z _=>k-(intOf z).toNat)
     case atStart =>
      refine⟨0,_,_,_,by omega,rfl,yK ⟨?_,yd wq _,HR.o.keep ((yf _ wq).alloc (ye _) _)⟩⟩;show _=q1;rw[I4.o,HM.o]
      first
       | rfl
       | exact Q.ext' rfl rfl (by simp only[if_true,trM];omega)
     case round =>
      clear c0 c1 c2 B8;obtain⟨k',x',y',s',O5,rfl,A0⟩:=hrel;have E3:bdQ ⟨x',y',s'⟩:=(by rw[A0.o.1];exact qdi L2.o k');unfold bdQ at E3;simp only at E3;obtain⟨⟨M2,N6⟩,⟨M1,M0⟩,J2,M5⟩:=E3;have hW:=A0.o.2.1;have d0:wr.cell? ⟨wq.heap.size,0,none⟩=some (.int .i64 x'):=(by simp[World.cell?,hW]);have d1:wr.cell? ⟨wq.heap.size,1,none⟩=some (.int .i64 y'):=(by simp[World.cell?,hW]);have d2:wr.cell? ⟨wq.heap.size,2,none⟩=some (.int .i64 s'):=(by simp[World.cell?,hW]);by_cases hkt:k'<k
      ·have f0:wr.frozen? ⟨wq.heap.size,0,none⟩=false:=frozen_of_row wr _ 0 _ _ hW;have f1:wr.frozen? ⟨wq.heap.size,1,none⟩=false:=frozen_of_row wr _ 1 _ _ hW;have f2:wr.frozen? ⟨wq.heap.size,2,none⟩=false:=frozen_of_row wr _ 2 _ _ hW;have HW:=yK hW;clear hW;gi_wp2_with fail
       go_roundw
       case rel =>
        refine⟨k'+1,-y',x',(s'+3) % 4,by omega,by go_num,yK ⟨?_,zf9 (qd1 (zdZ HW.o _) _) _,((A0.o.2.2.cell D8 E6.o 0 _).cell D8 E6.o 1 _).cell D8 E6.o 2 _⟩⟩;show _=trT (trN k' _);rw[<- A0.o.1];rfl
       case measure=>simp[intOf];omega
      obtain rfl:k'=k:=(by omega);have G1:=yK A0.o.2.2;have C5:Hid ((⟨x',y',s'⟩:Q)=trN k' q1):=yK A0.o.1;have HW:=yK hW;have F8:(trN k' q1).x=x':=(by rw[<- C5.o]);have H8:(trN k' q1).y=y':=(by rw[<- C5.o]);rw[F8]at V;rw[H8]at S;clear F8 H8 A0 hW HR;have e1:(if x'<X then x' else X)=min X x':=by split <;> omega
      have e2:(if y'<Y then y' else Y)=min Y y':=by split <;> omega
      gi_wp2_with fail;gi_quiet (fail);have E2:Hid (j+1<=maxLen):=yK (by simp only[maxLen];omega);have E7:Hid ((j+1)*24<=140737488355328):=yK (by omega);have A9:((t.ground.take j).map (tr m k')).length=j:=(by rw[yB,Yf];omega);have A7:=yK (G1.o.keep (below_drewN wr.heap.size wr nq));have r:Hid ((wr.drewN nq).ownsRow wo.heap.size 56 3 (.slice p' j c') j (qCells ((t.ground.take j).map (tr m k')))):=yK (by have:=A7.o.own;unfold OwnQ at this;rwa [A9]at this);have D0:wo.heap.size<=(wr.drewN nq).heap.size:=A7.o.base;clear A9;have d0:(wr.drewN nq).cell? ⟨wq.heap.size,0,none⟩=some (.int .i64 x'):=d0;have d1:(wr.drewN nq).cell? ⟨wq.heap.size,1,none⟩=some (.int .i64 y'):=d1;have d2:(wr.drewN nq).cell? ⟨wq.heap.size,2,none⟩=some (.int .i64 s'):=d2;clear G1 HW;revert A7 r D0 d0 d1 d2;generalize wr.drewN nq=w6;intro A7 r D0 d0 d1 d2;obtain⟨iQ,N0,L1,N8,I7⟩:=info_parts infoQ;gi_wp2_with (first
       | (gi_at_builtin;refine wpListIn_append_own _ rfl _ _ 22 rfl wo.heap.size 56 iQ _ 3 24 underlying22 N0 L1 N8 I7 rfl (by decide) (.slice p' j c') j (qCells ((t.ground.take j).map (tr m k'))) rfl (r.o.alloc _) ⟨w6.heap.size,0,none⟩ 1 1 (qVals ⟨x',y',s'⟩) rfl rfl (qa7 ⟨x',y',s'⟩) (qav _) E2.o E7.o (by rw[yp];omega) ?_;intro v' w7 hown' hgrow _;obtain⟨J0,I6,rfl⟩:=zf hown'))
      have G8:w6.grownBy w7 (Value.slice p' j c').ownBlock:=⟨hgrow.os,hgrow.tape,hgrow.output,yJ (by simp) hgrow.size,λ k hk O=>(hgrow.block k (by simp;omega) O).trans (Below.heap_alloc _ _ _ hk)⟩;have hN:SyI wo.heap.size wo w7 (.slice J0 (j+1) I6) ((t.ground.take (j+1)).map (tr m k')):=by
       refine A7.o.grow G8 (λ z hz=>(r.o.lt z hz).1) ?_;have e:(t.ground.take (j+1)).map (tr m k')=(t.ground.take j).map (tr m k')++[⟨x',y',s'⟩]:=(by rw[C5.o];exact B4.o);have el:((t.ground.take (j+1)).map (tr m k')).length=j+1:=(by rw[yB,Yf];omega);unfold OwnQ;rw[el,e,zan];exact hown'
      have I9:=yK hN;clear hN G8 hown' hgrow r A7 C5 d0 d1 d2
      go_roundw
      case rel=>exact⟨j+1,by omega,by go_num,by rw[V.o],by rw[S.o],I9⟩
      case measure=>simp[intOf];omega
   obtain rfl:j=t.ground.length:=(by omega);have R:∀ q∈t.ground.map (tr m k),bdQ q:=λ q hq=>by
    obtain⟨p,hp,rfl⟩:=yP.1 hq;exact C9.o p hp
   have O:t.ground.map (tr m k)≠[]:=(by simpa using A2.o);have Z:(t.ground.map (tr m k)).length=t.ground.length:=(by simp);have C0:zU (·.x) (t.ground.map (tr m k)) t.ground.length=leftL (t.ground.map (tr m k)):=(by rw[<- Z];exact zbN O (λ q hq=>(R q hq).1.2));have B9:zU (·.y) (t.ground.map (tr m k)) t.ground.length=lowL (t.ground.map (tr m k)):=(by rw[<- Z];exact zbN O (λ q hq=>(R q hq).2.1.2));obtain⟨B,D⟩:=qa9 (f:=(·.x)) (λ q hq=>(R q hq).1.1) t.ground.length;obtain⟨A,C⟩:=qa9 (f:=(·.y)) (λ q hq=>(R q hq).2.1.1) t.ground.length;rw[C0]at B D ⊢;rw[B9]at A C ⊢;have A6:Hid (wayT t.ground i=(t.ground.map (tr m k)).mapM (atT t.ground (gx-leftL (t.ground.map (tr m k))) (gy-lowL (t.ground.map (tr m k))))):=yK (by rw[qfw,D6.o,M9.o,N4.o]);have A5:∀ q∈t.ground.map (tr m k),bdQ q/\leftL (t.ground.map (tr m k))<=q.x/\lowL (t.ground.map (tr m k))<=q.y:=λ q hq=>⟨R q hq,zaA _ hq,zaA _ hq⟩;have M:=HR.o;rw[Yd]at M;clear C0 B9 D6 R HR C9 B8 G7 J4 A9;revert B D A C A6 O Z A5 M;generalize t.ground.map (tr m k)=I;intro O Z B D A C A6 A5 M;obtain⟨lx,C0⟩:∃ lx,leftL I=lx:=⟨_,rfl⟩;obtain⟨ly,B9⟩:∃ ly,lowL I=ly:=⟨_,rfl⟩;rw[C0]at B D A6 A5 ⊢;rw[B9]at A C A6 A5 ⊢;clear C0 B9;have J5:=yK A5;clear A5;have I5:=yK O;clear O;have B6:=yK Z;clear Z;obtain⟨ia,rfl,G4⟩:∃ ia,p'=some ia/\QsAt wr ia I:=by
    rcases M.own.has with⟨_,h⟩|⟨a,c,h1,_,_,h4⟩
    ·exact absurd h I5.o
    simp only[yC]at h1;exact⟨a,h1.1,h4⟩
   have H5:=yK G4;clear G4;have F2:=yK (And.intro M.below M.base);clear M;obtain⟨wi,E4⟩:∃ wi:World,wi=wr:=⟨_,rfl⟩;gi_wp2_with fail
   gi_loopw [13,97] (λ u z wr=>∃ (j:Nat) (T:List Nat),j<=t.ground.length/\z=.int .i64 j/\Hid ((I.take j).mapM (atT t.ground (gx-lx) (gy-ly))=some T/\RI.Own wr wi.heap.size u (T.map λ n:Nat=>(n:Int))/\Bw wi wr)) (λ _ z _=>t.ground.length-(intOf z).toNat)
   case atStart=>exact⟨0,[],by omega,rfl,yK ⟨rfl,RI.own_nil _ _,by rw[E4];exact yf _ _⟩⟩
   rw[<- E4]at H5 F2;clear E4;obtain⟨j,T,hj,rfl,HR⟩:=hrel;have F3:T.length=j:=by
    have h1:=qcl HR.o.1;rw[Yf,B6.o]at h1;omega
   obtain⟨tp,tc,rfl⟩:=zf HR.o.2.1;have v:(T.map λ n:Nat=>(n:Int)).length=j:=(by rw[yB,F3]);rw[v]at HR ⊢;have B0:Bw wo wr:=F2.o.1.trans (HR.o.2.2.mono F2.o.2);have G0:J W.heap.size (waysN t.ground i).length wr:=HJ.o _ _ _ _ D9.o.1 B0;have H4:wr.heap[W.heap.size]?=some (.cells #[.int .i64 gx,.int .i64 gy,.int .i64 0] 56):=(B0.block _ D9.o.2.2).trans D9.o.2.1;have E1:=yK G0;clear G0;have E5:=yK H4;clear H4 B0 v;by_cases hlt:j<t.ground.length
   ·obtain⟨q,hq⟩:∃ q,I[j]?=some q:=⟨_,yb (by rw[B6.o];exact hlt)⟩;obtain⟨A1,N1,J6⟩:=J5.o q (yg hq);have F:=H5.o.below HR.o.2.2;have c0:=F.at0 j q hq;have c1:=F.at1 j q hq;have c2:=F.at2 j q hq;have F9:=yK (zl hq);clear hq F;obtain⟨qx,qy,qs⟩:=q;simp only at c0 c1 c2 N1 J6;unfold bdQ at A1;simp only at A1;obtain⟨⟨M6,N3⟩,⟨L8,L6⟩,L4,J9⟩:=A1;have hQ:=yd wr (.cells #[.int .i64 qx,.int .i64 qy,.int .i64 qs] 56);have A4:Bw wr (wr.alloc (.cells #[.int .i64 qx,.int .i64 qy,.int .i64 qs] 56)):=(yf _ wr).alloc (ye _) _
    gi_upto_region 27 with fail
    clear c0 c1 c2;revert hQ A4;generalize wr.alloc (.cells #[.int .i64 qx,.int .i64 qy,.int .i64 qs] 56)=w8;intro hQ A4;have F0:=HJ.o _ _ _ _ E1.o A4;have D1:=(A4.block _ (ya.1 E5.o).1).trans E5.o;have B1:=HN.o _ _ _ F0;have C3:=B1.blk;simp only at C3;have d1:∀ d:SubW w8,d.1.cell? ⟨bb,5,none⟩=some (.map (some qm)):=λ d=>by simp only[World.cell?,d.block C3];rfl
    have d2:∀ d:SubW w8,d.1.cell? ⟨W.heap.size,0,none⟩=some (.int .i64 gx):=λ d=>by simp only[World.cell?,d.block D1];rfl
    have d3:∀ d:SubW w8,d.1.cell? ⟨W.heap.size,1,none⟩=some (.int .i64 gy):=λ d=>by simp only[World.cell?,d.block D1];rfl
    have d4:∀ d:SubW w8,d.1.cell? ⟨wr.heap.size,0,none⟩=some (.int .i64 qx):=λ d=>by simp only[World.cell?,d.block hQ];rfl
    have d5:∀ d:SubW w8,d.1.cell? ⟨wr.heap.size,1,none⟩=some (.int .i64 qy):=λ d=>by simp only[World.cell?,d.block hQ];rfl
    have d6:∀ d:SubW w8,d.1.cell? ⟨wr.heap.size,2,none⟩=some (.int .i64 qs):=λ d=>by simp only[World.cell?,d.block hQ];rfl
    have H3:∀ d:SubW w8,HasM Q.val d.1 qm (numQ t.ground):=λ d=>B1.quarter.below d.2;have G9:=yK H3;clear H3;have D5:Hid ((⟨qx-lx+gx,qy-ly+gy,qs⟩:Q)=sh (gx-lx) (gy-ly) ⟨qx,qy,qs⟩):=yK (Q.ext' (by simp only[sh];omega) (by simp only[sh];omega) rfl);have D7:Hid (∀ p∈numQ t.ground,smallQ p.1):=yK λ p hp=>zhu (U.o p.1 (by rw[<- zaH t.ground];exact yP.2 ⟨p,hp,rfl⟩));have F7:Hid (t.ground.Nodup):=yK N5.o.nodup;have N7:=yK F0;clear F0;have L3:=yK D1;clear D1;have J8:=yK A4;clear A4;clear B1 C3 hQ
    cases hat:atT t.ground (gx-lx) (gy-ly) ⟨qx,qy,qs⟩with
    | none =>
     have d7:∀ d:SubW w8,(Instr.lookup 139 (.map (some qm)) (.agg #[.int .i64 (qx-lx+gx),.int .i64 (qy-ly+gy),.int .i64 qs]) true).run Tryz.prog d.1=.ok (.tuple #[.int .i64 0,.bool false]) d.1:=λ d =>
      zM (x:=(⟨qx-lx+gx,qy-ly+gy,qs⟩:Q)) encQw underlying139 (zeroValue3 _) (G9.o d) D7.o (by unfold smallQ;simp only;omega) (λ p hp e=>zhm hat (by rw[<- D5.o,<- e,<- zaH t.ground];exact yP.2 ⟨p,hp,rfl⟩)) true
     have I8:Hid (wayT t.ground i=none):=yK (by
      rw[A6.o];refine zdL (i:=j+1) ?_;rw[F9.o,qd5,HR.o.1,hat];rfl)
     have hd:((j:Int)==(t.ground.length:Int))=false:=(by simp only[Yt,ne_eq];omega);clear hat;refine qaa 27 (by kernel_rfl) (by kernel_rfl) (by kernel_rfl) ?_;simp only[yh,yj,yi,yl]
     repeat (go_big_quiet_step (fail))
     refine wpQuiet_nil ?_;intro dq;have B3:=HJ.o _ _ _ _ N7.o dq.2;have C7:=dq.block L3.o;have s:=HN.o _ _ _ B3;have G:=s.blk;simp only at G;revert B3 C7 G;clear s;generalize dq.1=w9;intro B3 C7 G;have b0:w9.cell? ⟨bb,0,none⟩=some (.slice (some ga) t.ground.length gc):=(by simp only[World.cell?,G];rfl);have L0:=yK B3;have F6:=yK C7;clear d1 d2 d3 d4 d5 d6 d7 B3 C7 G;gi_wp2_with fail
     go_roundw
     case rel=>exact⟨i+1,by omega,by go_num,yK ⟨by rw[qdv I8.o];exact L0.o,F6.o,(ya.1 F6.o).1⟩⟩
     case measure=>simp[intOf];omega
    | some n =>
     obtain⟨G3,O4⟩:=zeB hat;have d7:∀ d:SubW w8,(Instr.lookup 139 (.map (some qm)) (.agg #[.int .i64 (qx-lx+gx),.int .i64 (qy-ly+gy),.int .i64 qs]) true).run Tryz.prog d.1=.ok (.tuple #[.int .i64 n,.bool true]) d.1:=λ d =>
      qC (x:=(⟨qx-lx+gx,qy-ly+gy,qs⟩:Q)) encQw underlying139 (G9.o d) D7.o (by rw[zaH];exact F7.o) (qew (by rw[D5.o];exact G3)) true
     have J1:Hid ((I.take (j+1)).mapM (atT t.ground (gx-lx) (gy-ly))=some (T++[n])):=yK (by
      rw[F9.o,qd5,HR.o.1,hat];rfl)
     clear hat G3;refine qaa 27 (by kernel_rfl) (by kernel_rfl) (by kernel_rfl) ?_;simp only[yh,yj,yi,yl]
     repeat (go_big_quiet_step (fail))
     refine wpQuiet_nil ?_;intro dq;have B5:=J8.o.tm dq.2;revert B5;generalize dq.1=w9;intro B5;clear d1 d2 d3 d4 d5 d6 d7;have I2:=yK (HR.o.2.2.tm B5);have E8:=qf HR.o.2.1 B5;have v:(T.map λ n:Nat=>(n:Int)).length=j:=(by rw[yB,F3]);rw[v]at E8;have G5:=yK E8;clear E8 B5;have E2:Hid (j+1<=maxLen):=yK (by simp only[maxLen];omega);have E7:Hid ((j+1)*8<=140737488355328):=yK (by omega);have D0:wi.heap.size<=w9.heap.size:=I2.o.size;clear v;obtain⟨iI,L5,N2,M4,J3⟩:=info_parts qdj;gi_wp2_with (first
      | (gi_at_builtin;refine wpListIn_append_own _ rfl _ _ 30 rfl wi.heap.size 3 iI _ 1 8 underlying30 L5 N2 M4 J3 rfl (by decide) (.slice tp j tc) j (RI.cells (T.map λ n:Nat=>(n:Int))) rfl (G5.o.alloc _) ⟨w9.heap.size,0,none⟩ 1 1 [.int .i64 n] rfl rfl (zgi _ _ _) (by simp[Value.oneCell']) E2.o E7.o (by rw[yp];omega) ?_;intro v' w10 hown' hgrow _;obtain⟨J7,L7,rfl⟩:=zf hown'))
     have HF:Hid (RI.Own w10 wi.heap.size (.slice J7 (j+1) L7) ((T++[n]).map λ n:Nat=>(n:Int))/\Bw wi w10):=yK ⟨by
      have e:((T++[n]).map λ n:Nat=>(n:Int))=(T.map λ n:Nat=>(n:Int))++[(n:Int)]:=(by simp);rw[e];refine RI.own_snoc ?_;rw[yB,F3];exact hown',(I2.o.alloc D0 _).grown hgrow (by rw[yp];omega) λ z hz=>(G5.o.lt z hz).1⟩
     clear hown' hgrow
     go_roundw
     case rel=>exact⟨j+1,T++[n],by omega,by go_num,yK ⟨J1.o,HF.o⟩⟩
     case measure=>simp[intOf];omega
   obtain rfl:j=t.ground.length:=(by omega);have F5:Hid (wayT t.ground i=some T):=yK (by
    rw[A6.o];have h1:=HR.o.1;rw[<- B6.o,Yd]at h1;exact h1)
   have hd:((t.ground.length:Int)==(t.ground.length:Int))=true:=beq_self_eq_true _;have s:=HN.o _ _ _ E1.o;have G:=s.blk;simp only at G;have b0:wr.cell? ⟨bb,0,none⟩=some (.slice (some ga) t.ground.length gc):=(by simp only[World.cell?,G];rfl);clear s G;obtain⟨fn,O0,I3,N9,O2,hR⟩:=HY.o _ (waysN t.ground i).length #[.slice tp t.ground.length tc] wr _ (by
     obtain⟨h,_⟩:=yc.1 (zdV (by omega) F5.o);exact h) ⟨_,T,zdV (by omega) F5.o,rfl,zB HR.o.2.1 (YC _)⟩ E1.o (ye _) E5.o rfl
   gi_wp2_with fail;refine hR.mono ?_;rintro e W5 (⟨rfl,hJ5,g⟩|⟨rfl,hJx5⟩)
   ·have HF:Hid (J W.heap.size (waysN t.ground (i+1)).length W5):=yK (by
     rw[zcg F5.o,yL];exact hJ5)
    have I0:=yK g;clear g hJ5 b0;gi_wp2_with fail
    go_roundw
    case rel=>exact⟨i+1,by omega,by go_num,yK ⟨HF.o,I0.o,(ya.1 I0.o).1⟩⟩
    case measure=>simp[intOf];omega
   clear b0;gi_wp2_with fail;refine Yc (results_none rfl _ _ _) rfl ?_;exact⟨⟨_,rfl⟩,.inr hJx5⟩
  obtain rfl:i=8:=by omega
  gi_wp2
  go_end0
  exact⟨⟨_,rfl⟩,.inl ⟨_,HR.o.1⟩⟩
section
variable {P:Program}
theorem eval_put_same {a:Act} {d:Nat} (h:d<a.tmps.size) (v:Value):(a.put (some d) v).eval (.tmp d)=v:=by
 simp[Act.put,Act.eval,h]
theorem ze3 {id:Nat} {Q:Exit->Act->World->Prop} {a:Act} {w:World} {o0 o1 o2 o3:Oper} {T U:TypeId} {d0 d1:Nat} {x p q:Operand} {cT cU oT oU:Array Value} {bT bU bX:Nat} {dU:TypeDesc}
  (hm:P.follows .mixedOrders=true) (hB:gB #[o0,o1,o2,o3] [2,3] [0,1,0,0]=true)
  (e0:o0.op=.build T #[]) (g0:o0.guard=none) (t0:o0.dst=some d0)
  (e1:o1.op=.load U x) (g1:o1.guard=none) (t1:o1.dst=some d1)
  (e2:o2.op=.store T p (.tmp d0)) (g2:o2.guard=none) (t2:o2.dst=none)
  (e3:o3.op=.store U q (.tmp d1)) (g3:o3.guard=none) (t3:o3.dst=none)
  (hbuilt:P.built T []=some cT) (hd0:d0<a.tmps.size) (hd1:d1<a.tmps.size) (hne:d1≠d0)
  (hx:(a.put (some d0) (.agg cT)).eval x=.pointer (some ⟨bX,0,none⟩))
  (hp:((a.put (some d0) (.agg cT)).put (some d1) (.agg cU)).eval p=.pointer (some ⟨bT,0,none⟩))
  (hq:((a.put (some d0) (.agg cT)).put (some d1) (.agg cU)).eval q=.pointer (some ⟨bU,0,none⟩))
  (hgX:w.heap[bX]?=some (.cells cU U (0,0))) (hgT:w.heap[bT]?=some (.cells oT T (0,0))) (hgU:w.heap[bU]?=some (.cells oU U (0,0)))
  (hxt:bX≠bT) (hut:bU≠bT) (hu:P.underlying U=some dU) (hrow:dU.isRow=true)
  (hiT:(P.info? T).map (·.size)=some cT.size) (hiU:(P.info? U).map (·.size)=some cU.size) (hoT:oT.size=cT.size) (hoU:oU.size=cU.size)
  (h1T:cT.all (·.oneCell')=true) (h1U:cU.all (·.oneCell')=true)
  (h:Q .normal ((a.put (some d0) (.agg cT)).put (some d1) (.agg cU)) (((w.drewN 1).setRow bT cT).setRow bU cU)) :
  (Code.region id #[o0,o1,o2,o3] true).wp P Q a w:=by
 have A:=(setRow_other (w.drewN 1) bT bU cT hut).trans hgU;have B:=(setRow_other (w.drewN 1) bT bX cT hxt).trans hgX;have w0:∀ b:Act,Region.wanted o0 (yielded #[o0,o1,o2,o3] b.tmps)=true:=λ b=>by simp[Region.wanted,g0]
 have w1:∀ b:Act,Region.wanted o1 (yielded #[o0,o1,o2,o3] b.tmps)=true:=λ b=>by simp[Region.wanted,g1]
 refine qcj (l:=[o0,o1,o2,o3]) [2,3] [0,1,0,0] hm hB (λ m w'=>match m with|0=>∃ n,w'=w.drewN n|1=>∃ n,w'=((w.drewN 1).setRow bT cT).drewN n|_=>True) ⟨1,rfl⟩ ?_;refine zaX (by rfl) (by rfl) (by rw[e0];rfl) ?_;unfold wpQuiet;rw[YA (w0 a)];refine⟨.agg cT,λ w' _=>?_,?_⟩
 ·unfold Oper.quietAt execOp;have hb:(Instr.build T ((#[]:Array (Nat × Operand)).map λ (i,x)=>(i,a.eval x))).run P w'=.ok (.agg cT) w':=run_build w' T _ cT (by rw[<- hbuilt];simp);simp only[e0,yG,hb,yz,yH];exact⟨rfl,rfl⟩
 refine wpQuiet_nil ?_;rw[t0];refine qbh (by rfl) (by decide) (by rw[e1];rfl) g1 ?_;unfold wpQuiet;rw[YA (w1 _)];have hl:∀ W:World,W.heap[bX]?=some (.cells cU U (0,0))->(Instr.loadAt U (.pointer (some ⟨bX,0,none⟩))).run P W=.ok (.agg cU) W:=λ W hW=>by
  have:=run_loadVar_row (P:=P) W bX U U cU (0,0) _ hW hu (by cases dU <;> simp_all) hiU
  simp only[Instr.loadAt,Instr.sureAddr,yG,yH,yz,this]
 refine qF U x e1 hx (by rintro W ⟨n,rfl⟩;exact hl _ hgX) ?_;refine wpQuiet_nil ?_;unfold wpQuiet;rw[YA (w1 _)];refine qF U x e1 hx (by rintro W ⟨n,rfl⟩;exact hl _ B) ?_;refine wpQuiet_nil ⟨rfl,?_⟩;rw[t1];refine zaa (by rfl) (zaa (by rfl) (zaU ?_));have C:((a.put (some d0) (.agg cT)).put (some d1) (.agg cU)).eval (.tmp d0)=.agg cT:=by
  simp[Act.put,Act.eval,hd0,Array.getElem?_setIfInBounds,hne]
 have D:((a.put (some d0) (.agg cT)).put (some d1) (.agg cU)).eval (.tmp d1)=.agg cU:=by
  simp[Act.put,Act.eval,hd1,Array.getElem?_setIfInBounds]
 refine qK (o:=o2) rfl g2 e2 hp C (w':=(w.drewN 1).setRow bT cT) ?_ ⟨0,rfl⟩ ?_
 ·simp only[Instr.storeAt,Instr.sureAddr,yG,yH,yz];exact run_storeVar_row (P:=P) (w.drewN 1) bT T T _ cT hgT hiT hoT h1T
 rw[t2];refine qK (o:=o3) rfl g3 e3 hq D (w':=((w.drewN 1).setRow bT cT).setRow bU cU) ?_ trivial ?_
 ·simp only[Instr.storeAt,Instr.sureAddr,yG,yH,yz];exact run_storeVar_row (P:=P) _ bU U U _ cU A hiU hoU h1U
 rw[t3];exact zax h
end
end Go.Proofs.YtiinlplgloaanaaGreatDoor
