/- A return of a zero struct and of a variable's row: 'return fault{}, s' (the load may come behind the first store). -/
import Derived.Test.YtiinlplgloaanaaGreatDoorZzLayerTouches38
set_option linter.all false
set_option maxRecDepth 100000
set_option maxHeartbeats 8000000
namespace Go.Proofs.YtiinlplgloaanaaGreatDoor
open Go.Proofs.Tryz Go.RowKit
attribute [local go_sem] Oper.semAt_some
def findP (ps:List (List HP)) (l:Ld):Option HP:=if 0<=l.kind/\l.kind<ps.length then(ps.getD l.kind.toNat []).find? (λ p=>decide (p.ld=l))else none
def zeroP:HP:=⟨⟨0,false,0,0,0⟩,0,(0,0,0)⟩
theorem nT {t:Tk} {L:List E} {ps:List (List HP)} {bel:W3} (w:World) (bb:Nat) (bv:BV) (hb:BdAt w bb bv t L ps bel) (hpl:ps.length=t.kinds.length) (hk8:t.kinds.length<=8) (hsm:∀ l∈ps,l.length<=1000000) (l:Ld) :
  Calls Tryz.prog 109 #[.pointer (some ⟨bb,0,none⟩),.agg (ldVals l).toArray] w λ e w'=>e=.returned (.tuple #[RP.val ((findP ps l).getD zeroP),.bool (findP ps l).isSome])/\Bw w w':=by
 obtain⟨vg,vk,vc,vf,vb,qm,em,pv,B8⟩:=bv;obtain⟨kp,kc,B1⟩:=hb.kinds.slice;simp only at B1;subst B1;obtain⟨pp,pc,A7⟩:=hb.pieces.slice;simp only at A7;subst A7;generalize A1:(λ (e:Ending) (w':World)=>e=.returned (.tuple #[RP.val ((findP ps l).getD zeroP),.bool (findP ps l).isSome])/\Bw w w')=Po;have n:=yK A1;clear A1;have HB:=yK hb;clear hb;have B4:=yK hsm;clear hsm;go_enter func109,ntmps109;go_upto_region 1 with fail;change Code.wp _ _ _ _ ((w.alloc (.cells (ldVals l).toArray 50)).alloc (.cells (hpVals zeroP).toArray 152));have hA:=heapO (.cells (hpVals zeroP).toArray 152) (yd w (.cells (ldVals l).toArray 50));have hR:=yd (w.alloc (.cells (ldVals l).toArray 50)) (.cells (hpVals zeroP).toArray 152);rw[yp]at hR;have S:Bw w ((w.alloc (.cells (ldVals l).toArray 50)).alloc (.cells (hpVals zeroP).toArray 152)):=((yf _ w).alloc (ye _) _).alloc (by rw[yp];omega) _;revert hA hR S;generalize (w.alloc (.cells (ldVals l).toArray 50)).alloc (.cells (hpVals zeroP).toArray 152)=w1;intro hA hR S;have v:=HB.o.keep S;have A:=v.blk;simp only at A;have b1:∀ d:SubW w1,d.1.cell? ⟨bb,1,none⟩=some (.slice kp t.kinds.length kc):=λ d=>by simp only[World.cell?,d.block A];rfl
 have b7:∀ d:SubW w1,d.1.cell? ⟨bb,7,none⟩=some (.slice pp ps.length pc):=λ d=>by simp only[World.cell?,d.block A];rfl
 have z:∀ d:SubW w1,d.1.cell? ⟨w.heap.size,0,none⟩=some (.int .i64 l.kind):=λ d=>by simp only[World.cell?,d.block hA];rfl
 have HW:Hid (∀ d:SubW w1,Calls Tryz.prog 43 #[.int .i64 l.kind,.int .i64 0,.int .i64 ((t.kinds.length:Int)-1)] d.1 λ e w'=>e=.returned (.bool (decide (0<=l.kind/\l.kind<=(t.kinds.length:Int)-1)))/\∃ d':SubW w1,w'=d'.1):=yK λ d=>by
  refine(zF l.kind 0 ((t.kinds.length:Int)-1) d.1).mono ?_;rintro e w' ⟨rfl,rfl⟩;exact⟨rfl,d,rfl⟩
 have b:=yK v;clear v A;have HA:=yK hA;clear hA;have HR:=yK hR;clear hR;have A4:=yK S;clear S;have V:(Tryz.prog.info? 152).map (·.size)=some (hpVals zeroP).toArray.size:=sizeP;by_cases hin:0<=l.kind/\l.kind<ps.length
 ·have hd:decide (0<=l.kind/\l.kind<=(t.kinds.length:Int)-1)=true:=yw (by omega);rw[hd]at HW;obtain⟨k,hk⟩:∃ k:Nat,l.kind=k:=⟨l.kind.toNat,by omega⟩;obtain⟨M,F⟩:∃ M,ps[k]?=some M:=⟨_,yb (by omega)⟩;obtain⟨pa,T,rfl,_,_,K,g⟩:=b.o.pieces.get F;have Y:Hid (findP ps l=M.find? (λ p=>decide (p.ld=l))):=yK (by
   unfold findP;rw[Yz hin,hk,YI,yu,F];rfl)
  rw[hk]at HW z;clear hd;refine zg 11 (by kernel_rfl) (by kernel_rfl) ?_;simp only[yh,yj,yi,yl]
  repeat(go_big_quiet_step ((exact HW.o _)))
  refine wpQuiet_nil ?_;intro dq;have O:=dq.block HA.o;have Z:=dq.block HR.o;have I:=b.o.keep dq.2;have U:=A4.o.tm dq.2;have C:∀ d:SubW dq.1,d.1.cell? (pa.add k)=some T:=λ d=>by
   obtain⟨C1,B9,e1,_,e2,e3,_⟩:=((b.o.keep dq.2).keep d.2).pieces.get F
   cases e1
   obtain⟨C3,C4,f1,_,f2,f3,_⟩:=b.o.pieces.get F
   cases f1
   rw[e2]at f2;cases f2;rw[K]at f3;cases f3;exact e3
  have D:=g.below dq.2;clear b1 b7 z K g;revert O Z I U C D;generalize dq.1=w3;intro O Z I U C D;have A:=I.blk;simp only at A;have b7:∀ d:SubW w3,d.1.cell? ⟨bb,7,none⟩=some (.slice (some pa) ps.length pc):=λ d=>by simp only[World.cell?,d.block A];rfl
  have z:∀ d:SubW w3,d.1.cell? ⟨w.heap.size,0,none⟩=some (.int .i64 k):=λ d=>by
   simp only[World.cell?,d.block O];show (ldVals l).toArray[0]?=_;simp[ldVals,hk]
  have C2:k<ps.length:=(yc.1 F).1;have s:=B4.o M (yg F);have B0:Hid (∀ d:SubW w3,Calls Tryz.prog 135 #[T,.func (.func 136) #[] #[.pointer (some ⟨w.heap.size,0,none⟩)]] d.1 λ e w'=>e=.returned (.int .i64 (idxI M l))/\∃ d':SubW w3,w'=d'.1):=yK λ d=>by
   refine(wy M T l w.heap.size d.1 (D.below d.2) s (d.block O)).mono ?_;rintro e w' ⟨rfl,B3⟩;exact⟨rfl,⟨w',d.2.tm B3⟩,rfl⟩
  have A2:=yK Z;clear Z;have A8:=yK U;clear U;have f:=yK I;clear I A;have A5:=yK D;clear D;go_wp2_with fail;refine zg 11 (by kernel_rfl) (by kernel_rfl) ?_;simp only[yh,yj,yi,yl]
  repeat(go_big_quiet_step ((exact B0.o _)))
  refine wpQuiet_nil ?_;intro dq;have G:=dq.block A2.o;have A0:=f.o.keep dq.2;have J:=A8.o.tm dq.2;have N:=A5.o.below dq.2;have B:∀ d:SubW dq.1,d.1.cell? (pa.add k)=some T:=λ d=>C ⟨d.1,dq.2.tm d.2⟩;have c:∀ d:SubW dq.1,d.1.cell? ⟨bb,7,none⟩=some (.slice (some pa) ps.length pc):=λ d=>b7 ⟨d.1,dq.2.tm d.2⟩;have a:∀ d:SubW dq.1,d.1.cell? ⟨w.heap.size,0,none⟩=some (.int .i64 k):=λ d=>z ⟨d.1,dq.2.tm d.2⟩;clear b7 z C A5 A2 A8 f B0 O;revert G A0 J N B c a;generalize dq.1=w4;intro G A0 J N B c a
  cases hf:M.findIdx? (λ p=>decide (p.ld=l))with
  | none =>
   have m:idxI M l=-1:=(by unfold idxI;rw[hf]);have r:Hid (findP ps l=none):=yK (by
    rw[Y.o,kR];rw[List.findIdx?_eq_none_iff]at hf;intro x m;simpa using hf x m)
   rw[m];clear hf m c a B;go_wp2_with (refine wpList_store_row rfl 152 _ _ rfl (w.heap.size+1) rfl 152 _ (hpVals zeroP).toArray rfl G V rfl (by simp[hpVals,Value.oneCell']) ?_);refine Yb (zI rfl underlying152 rfl _ _ (w.heap.size+1) (hpVals zeroP).toArray (0,0) (.bool false) (setRow_heap _ _ _ _ _ _ G) V rfl rfl) rfl ?_;rw[<- n.o];exact⟨by rw[r.o];rfl,zi J (YE _) _⟩
  | some i =>
   have m:idxI M l=i:=(by unfold idxI;rw[hf]);obtain⟨hi,A6,A3⟩:=List.findIdx?_eq_some_iff_getElem.1 hf;obtain⟨p,hp⟩:∃ p,M[i]?=some p:=⟨_,yb hi⟩;have r:Hid (findP ps l=some p):=yK (by
    have he:M[i]=p:=(by rw[yb hi]at hp;exact YX hp);rw[Y.o,List.find?_eq_some_iff_getElem];exact⟨by rw[<- he];exact A6,i,hi,he,λ j hj=>by simpa using A3 j hj⟩)
   rw[m];obtain⟨xp,xc,rfl⟩:=N.slice;have H:∀ d:SubW w4,∃ xa,xp=some xa/\(Instr.loadAt 152 (.pointer (some (xa.add (i*9))))).run Tryz.prog d.1=.ok (.agg (hpVals p).toArray) d.1:=λ d=>by
    obtain⟨xa,e,B5⟩:=(N.below d.2).at_ (by rintro e;rw[e]at hp;simp at hp);exact⟨xa,e,zl (P:=Tryz.prog) (R:=RP) underlying152 rfl sizeP B5 hp⟩
   obtain⟨xa,rfl,_⟩:=H ⟨w4,yf _ _⟩;have B2:∀ d:SubW w4,(Instr.loadAt 152 (.pointer (some (xa.add (i*9))))).run Tryz.prog d.1=.ok (.agg (hpVals p).toArray) d.1:=λ d=>by
    obtain⟨C0,e,h⟩:=H d
    cases e;exact h
   have B6:=yK G;clear G;have B7:=yK J;clear J;clear hf m A6 A3 H N;go_wp2_with fail;refine zg 11 (by kernel_rfl) (by kernel_rfl) ?_;simp only[yh,yj,yi,yl]
   repeat(first|((go_big_quiet_want;refine zx 152 _ rfl rfl (by rintro w ⟨d,rfl⟩;exact B2 d) ?_;simp only[Act.put,yr,yF,yE];go_big_quiet_on))|go_big_quiet_step (fail))
   refine wpQuiet_nil ?_;intro dq;have W:=dq.block B6.o;have q:=B7.o.tm dq.2;clear c a B B2;revert W q;generalize dq.1=w5;intro W q;have A9:(Tryz.prog.info? 152).map (·.size)=some (hpVals p).toArray.size:=sizeP;go_wp2_with (refine wpList_store_row rfl 152 _ _ rfl (w.heap.size+1) rfl 152 _ (hpVals p).toArray rfl W A9 rfl (by simp[hpVals,Value.oneCell']) ?_);refine Yb (zI rfl underlying152 rfl _ _ (w.heap.size+1) (hpVals p).toArray (0,0) (.bool true) (setRow_heap _ _ _ _ _ _ W) A9 rfl rfl) rfl ?_;rw[<- n.o];exact⟨by rw[r.o];rfl,zi q (YE _) _⟩
 ·have hd:decide (0<=l.kind/\l.kind<=(t.kinds.length:Int)-1)=false:=yv (by omega);rw[hd]at HW;have Y:Hid (findP ps l=none):=yK (Yy hin);clear hin hd;refine zg 11 (by kernel_rfl) (by kernel_rfl) ?_;simp only[yh,yj,yi,yl]
  repeat(go_big_quiet_step ((exact HW.o _)))
  refine wpQuiet_nil ?_;intro dq;have X:=dq.block HR.o;have y:=A4.o.tm dq.2;clear b1 b7 z;revert X y;generalize dq.1=w2;intro X y;go_wp2_with (refine wpList_store_row rfl 152 _ _ rfl (w.heap.size+1) rfl 152 _ (hpVals zeroP).toArray rfl X V rfl (by simp[hpVals,Value.oneCell']) ?_);refine Yb (zI rfl underlying152 rfl _ _ (w.heap.size+1) (hpVals zeroP).toArray (0,0) (.bool false) (setRow_heap _ _ _ _ _ _ X) V rfl rfl) rfl ?_;rw[<- n.o];exact⟨by rw[Y.o];rfl,zi y (YE _) _⟩
def stepR (t:Tk) (s:Option (List Pc)) (l:Ld):Option (List Pc):=match s with|none=>none|some s=>match findT t l with|none=>none|some p=>putT t s p
def foldR (t:Tk) (k:Nat):Option (List Pc):=(t.fixed.take k).foldl (stepR t) (some [])
theorem lB (t:Tk):foldR t t.fixed.length=rootT t:=by unfold foldR;rw[Yc];rfl
theorem uF {t:Tk} {k:Nat} {l:Ld} (h:t.fixed[k]?=some l):foldR t (k+1)=stepR t (foldR t k) l:=by
 unfold foldR;rw[zn h,kt];rfl
theorem eX (t:Tk):∀ l:List Ld,l.foldl (stepR t) none=none
 | []=>rfl
 | _ :: l=>eX t l
theorem nH {t:Tk} {k:Nat} (h:foldR t k=none):rootT t=none:=by
 rw[<- lB];have e:t.fixed=t.fixed.take k++t.fixed.drop k:=(List.take_append_drop k _).symm;unfold foldR at *;rw[Yc]
 conv=>lhs;rw[e]
 rw[kt,h,eX]
theorem pS (t:Tk) (L:List E) (l:Ld):findP (pcsT t L) l=(findT t l).map (hpT t.ground L):=by
 unfold findP findT pcsT;rw[yB,qX];by_cases h:0<=l.kind/\l.kind<(t.kinds.length:Int)
 ·rw[Yz h,Yz h,yu,yQ,yu];obtain⟨A,B⟩:∃ A,(piecesT t)[l.kind.toNat]?=some A:=⟨_,yb (by rw[qX];omega)⟩;rw[B];show (A.map (hpT t.ground L)).find? _=(A.find? _).map _;rw[List.find?_map];rfl
 rw[Yy h,Yy h];rfl
theorem gz {t:Tk} {l:Ld} {p:Pc} (h:findT t l=some p):∃ (k:Nat) (pl:List Pc),(piecesT t)[k]?=some pl/\p∈pl/\p.ld=l:=by
 unfold findT at h;split at h
 ·rename_i hk;obtain⟨pl,A⟩:∃ pl,(piecesT t)[l.kind.toNat]?=some pl:=⟨_,yb (by rw[qX];omega)⟩;rw[yu,A]at h;exact⟨_,pl,A,List.mem_of_find?_eq_some h,by simpa using List.find?_some h⟩
 cases h
structure RtI (t:Tk) (L:List E) (w:World) (bb:Nat) (bv:BV) (s:List Pc) (S:HS) (W:World):Prop where
 box:W.heap[w.heap.size]?=some (.cells (hsVals S).toArray 108 (0,0))
 st:StT t.ground L s S
 own:RP.Own W w.heap.size S.laid (s.map (hpT t.ground L))
 good:GoodT t s
 bd:BdAt W bb bv t L (pcsT t L) (belT t L)
 below:Bw w W
theorem RtI.keep {t:Tk} {L:List E} {w:World} {bb:Nat} {bv:BV} {s:List Pc} {S:HS} {W W':World} (h:RtI t L w bb bv s S W) (e:Bw W W'):RtI t L w bb bv s S W' :=
 ⟨(e.block _ (ya.1 h.box).1).trans h.box,h.st,qf h.own e,h.good,h.bd.keep e,h.below.tm e⟩
theorem cR {t:Tk} {L:List E} (ok:TkOk t L) (w:World) (bb:Nat) (bv:BV) (hb:BdAt w bb bv t L (pcsT t L) (belT t L)) :
  Calls Tryz.prog 65 #[.pointer (some ⟨bb,0,none⟩)] w (RootPost t L w):=by
 have B2:∀ l∈pcsT t L,l.length<=1000000:=λ l y=>by
  obtain⟨x,hx,rfl⟩:=yP.1 y;obtain⟨⟨s,k⟩,_,rfl⟩:=yP.1 hx;rw[yB];have:=hU s t.ground;show (piecesK t.ground k s).length<=_;unfold piecesK;rw[yB];omega
 have X:(pcsT t L).length=t.kinds.length:=by unfold pcsT;rw[yB,qX]
 obtain⟨vg,vk,vc,vf,vb,qm,em,pv,m⟩:=bv;obtain⟨fp,fc,B0⟩:=hb.fixed.slice;simp only at B0;subst B0;have C6:=(ya.1 hb.blk).1;have hA:=yd w (.cells (hsVals zeroS).toArray 108);have N:Below w.heap.size w (w.alloc (.cells (hsVals zeroS).toArray 108)):=(yf _ w).alloc (ye _) _;have U:RtI t L w bb ⟨vg,vk,vc,.slice fp t.fixed.length fc,vb,qm,em,pv,m⟩ [] zeroS (w.alloc (.cells (hsVals zeroS).toArray 108)):=⟨hA,nj _ _,RP.own_nil _ _,ph t,hb.keep N,N⟩;have B5:=yK B2;clear B2;have C2:=yK X;clear X;clear hA N;generalize A3:RootPost t L w=Po;have n:=yK A3;clear A3;have C5:t.fixed.length<=9223372036854775807:=by
  rcases hb.fixed with⟨_,h⟩|⟨_,_,_,h1,h2,_⟩
  ·rw[h];decide
  simp only[maxLen]at h2;omega
 have B4:=yK hb;clear hb;go_enter func65,ntmps65;go_upto_region 1 with fail;change Code.wp _ _ _ _ (w.alloc (.cells (hsVals zeroS).toArray 108));revert U;generalize w.alloc (.cells (hsVals zeroS).toArray 108)=w1;intro U;have C0:=yK U;have W:=U.bd.blk;simp only at W;have b3:w1.cell? ⟨bb,3,none⟩=some (.slice fp t.fixed.length fc):=by simp only[World.cell?,W];rfl
 clear U W;go_wp2_with fail;clear b3;go_loopw [14] (λ z wr=>∃ (k:Nat) (s:List Pc) (S:HS),k<=t.fixed.length/\z=.int .i64 k/\Hid (foldR t k=some s/\RtI t L w bb ⟨vg,vk,vc,.slice fp t.fixed.length fc,vb,qm,em,pv,m⟩ s S wr)) (λ z _=>t.fixed.length-(intOf z).toNat)
 case atStart=>exact⟨0,[],zeroS,YB _,rfl,yK ⟨rfl,C0.o⟩⟩
 case round =>
  obtain⟨k,s,S,hk,rfl,Z⟩:=hrel;by_cases hlt:k<t.fixed.length
  ·obtain⟨l,y⟩:∃ l,t.fixed[k]?=some l:=⟨_,yb hlt⟩;obtain⟨xa,rfl,A4⟩:=Z.o.2.bd.fixed.at_ (by rintro e;rw[e]at y;simp at y);have B3:(Instr.loadAt 50 (.pointer (some (xa.add (k*5))))).run Tryz.prog wr=.ok (.agg (ldVals l).toArray) wr:=zl (P:=Tryz.prog) (R:=RL) underlying50 rfl sizeL A4 y;have A6:=yK (uF y);clear y A4;have i:(Tryz.prog.info? 50).map (·.size)=some (ldVals l).toArray.size:=sizeL;have v:(ldVals l).toArray.all (·.oneCell')=true:=(by simp[ldVals,Value.oneCell']);go_upto_region 4 with(first
    | (refine qo rfl 50 _ rfl rfl B3 ?_)
    | (refine wpList_store_row rfl 50 _ _ rfl wr.heap.size rfl 50 _ (ldVals l).toArray rfl (yd wr _) i rfl v ?_;rw[World.setRow_alloc_new]))
   have f:=yd wr (.cells (ldVals l).toArray 50);have N:Below wr.heap.size wr (wr.alloc (.cells (ldVals l).toArray 50)):=(yf _ wr).alloc (ye _) _;have Y:=Z.o.2.keep N;clear B3 N;revert f Y;generalize wr.alloc (.cells (ldVals l).toArray 50)=w2;generalize wr.heap.size=lb;intro f Y;have A9:=yK (nT w2 bb _ Y.bd C2.o ok.k8 B5.o l);have B6:=yK Y;clear Y;go_wp2_with (refine Ya rfl 50 _ rfl lb rfl 50 (ldVals l).toArray (0,0) _ f underlying50 rfl i ?_);refine A9.o.mono ?_;rintro e w3 ⟨rfl,A5⟩;have d:=B6.o.keep A5;rw[pS];clear A9 f A5;have F:(Tryz.prog.info? 108).map (·.size)=some (hsVals S).toArray.size:=sizeS;have J:(hsVals S).toArray.all (·.oneCell')=true:=(by simp[hsVals,Value.oneCell'])
   cases hft:findT t l with
   | none =>
    have A2:Hid (rootT t=none):=yK (nH (k:=k+1) (by rw[A6.o,Z.o.1];unfold stepR;rw[hft]));simp only[Option.map_none,Option.getD_none,Option.isSome_none];have M:(Tryz.prog.info? 152).map (·.size)=some (hpVals zeroP).toArray.size:=sizeP;have I:(hpVals zeroP).toArray.all (·.oneCell')=true:=(by simp[hpVals,Value.oneCell']);go_upto_region 5 with(first
     | (refine wpList_store_row rfl 152 _ _ rfl w3.heap.size rfl 152 _ (hpVals zeroP).toArray rfl (yd w3 _) M rfl I ?_;rw[World.setRow_alloc_new]))
    have A:=d.keep ((yf _ w3).alloc (ye _) (.cells (hpVals zeroP).toArray 152));revert A;clear d;generalize w3.alloc (.cells (hpVals zeroP).toArray 152)=w4;intro A;have B:=A.box;have C3:=yK A.below;clear A;go_wp2_with (first
     | (refine Ya rfl 108 _ rfl w.heap.size rfl 108 (hsVals S).toArray (0,0) _ B underlying108 rfl F ?_)
     | (refine wpList_store_row rfl 108 _ _ rfl w.heap.size rfl 108 _ (hsVals S).toArray rfl B F rfl J ?_))
    refine Yb (zI rfl underlying108 rfl _ _ w.heap.size (hsVals S).toArray (0,0) (.bool false) (setRow_heap _ _ _ _ _ _ B) F rfl rfl) rfl ?_;rw[<- n.o];exact⟨S,false,rfl,λ h=>(by cases h),λ _=>A2.o,zi C3.o (ye _) _⟩
   | some p =>
    obtain⟨kk,pl,A0,q,A8⟩:=gz hft;have B1:=yK (show foldR t (k+1)=putT t s p by rw[A6.o,Z.o.1];unfold stepR;rw[hft]);simp only[kr,Yv,Option.isSome_some];have M:(Tryz.prog.info? 152).map (·.size)=some (hpVals (hpT t.ground L p)).toArray.size:=sizeP;have I:(hpVals (hpT t.ground L p)).toArray.all (·.oneCell')=true:=(by simp[hpVals,Value.oneCell']);go_upto_region 5 with(first
     | (refine wpList_store_row rfl 152 _ _ rfl w3.heap.size rfl 152 _ (hpVals (hpT t.ground L p)).toArray rfl (yd w3 _) M rfl I ?_;rw[World.setRow_alloc_new]))
    have A1:=yd w3 (.cells (hpVals (hpT t.ground L p)).toArray 152);have A:=d.keep ((yf _ w3).alloc (ye _) (.cells (hpVals (hpT t.ground L p)).toArray 152));revert A A1;clear d;generalize w3.alloc (.cells (hpVals (hpT t.ground L p)).toArray 152)=w4;generalize w3.heap.size=pb;intro A1 A;have C1:=yK (lD ok A.st A.good A0 q A.bd A.own);have B:=A.box;have O:=yK A;clear A;have B7:=yK (ku.2 ⟨pl,yg A0,q⟩);clear A0 q A8 hft;go_wp2_with (first
     | (refine Ya rfl 108 _ rfl w.heap.size rfl 108 (hsVals S).toArray (0,0) _ B underlying108 rfl F ?_)
     | (refine Ya rfl 152 _ rfl pb rfl 152 (hpVals (hpT t.ground L p)).toArray (0,0) _ A1 underlying152 rfl M ?_))
    refine C1.o.mono ?_;rintro e w5 ⟨H,b,rfl,h1,h2,V⟩;have K:=(V.block _ (ya.1 O.o.box).1).trans O.o.box;have r:=O.o.below.tm V;have g:=O.o.bd.keep V;have D:(Tryz.prog.info? 108).map (·.size)=some (hsVals H).toArray.size:=sizeS;have C:(hsVals H).toArray.all (·.oneCell')=true:=(by simp[hsVals,Value.oneCell']);have C4:(hsVals S).toArray.size=(hsVals H).toArray.size:=rfl;have G:(w5.setRow w.heap.size (hsVals H).toArray).heap[w.heap.size]?=some (.cells (hsVals H).toArray 108 (0,0)):=setRow_heap _ _ _ _ _ _ K;have a:=zi r (ye _) (hsVals H).toArray
    cases b with
    | false =>
     have A2:Hid (rootT t=none):=yK (nH (k:=k+1) (by rw[B1.o];exact h2 rfl));have B8:=yK a;clear a r g h1 h2 V;go_wp2_with (first
      | (refine wpList_store_row rfl 108 _ _ rfl w.heap.size rfl 108 _ (hsVals H).toArray rfl K D rfl C ?_)
      | (refine Ya rfl 108 _ rfl w.heap.size rfl 108 (hsVals H).toArray (0,0) _ G underlying108 rfl D ?_)
      | (refine wpList_store_row rfl 108 _ _ rfl w.heap.size rfl 108 _ (hsVals H).toArray rfl G D rfl C ?_))
     refine Yb (zI rfl underlying108 rfl _ _ w.heap.size (hsVals H).toArray (0,0) (.bool false) (setRow_heap _ _ _ _ _ _ G) D rfl rfl) rfl ?_;rw[<- n.o];exact⟨H,false,rfl,λ h=>(by cases h),λ _=>A2.o,zi B8.o (ye _) _⟩
    | true =>
     obtain⟨q1,q2,q3⟩:=h1 rfl;have A7:∀ (j:Nat) (cs:Array Value) (T:TypeId),T≠108->w5.heap[j]?=some (.cells cs T (0,0))->(w5.setRow w.heap.size (hsVals H).toArray).heap[j]?=w5.heap[j]?:=λ j cs T hT c=>setRow_other _ _ _ _ λ e=>by
      subst e;rw[K]at c;simp only[yo,Yg]at c;exact hT c.2.1.symm
     have B9:Hid (foldR t (k+1)=some (s++[p])/\RtI t L w bb ⟨vg,vk,vc,.slice (some xa) t.fixed.length fc,vb,qm,em,pv,m⟩ (s++[p]) H (w5.setRow w.heap.size (hsVals H).toArray)):=yK (by
      refine⟨by rw[B1.o];exact q1,G,q2,?_,dz O.o.good B7.o q1,B4.o.keep a,a⟩;refine zk (qA q3 O.o.below.size) λ j hj=>?_;obtain⟨_,_,cs,c⟩:=qg q3 hj;exact A7 j cs _ (by decide) c)
     clear A7 G a r g h1 h2 V q1 q2 q3;go_wp2_with (refine wpList_store_row rfl 108 _ _ rfl w.heap.size rfl 108 _ (hsVals H).toArray rfl K D rfl C ?_)
     go_roundw
     case rel=>exact⟨k+1,s++[p],H,by omega,by go_num,B9⟩
     case measure=>simp only[intOf];omega
  obtain rfl:k=t.fixed.length:=by omega
  have F:(Tryz.prog.info? 108).map (·.size)=some (hsVals S).toArray.size:=sizeS;have J:(hsVals S).toArray.all (·.oneCell')=true:=by simp[hsVals,Value.oneCell']
  have B:=Z.o.2.box;go_wp2_with (first
   | (refine Ya rfl 108 _ rfl w.heap.size rfl 108 (hsVals S).toArray (0,0) _ B underlying108 rfl F ?_)
   | (refine wpList_store_row rfl 108 _ _ rfl w.heap.size rfl 108 _ (hsVals S).toArray rfl B F rfl J ?_))
  refine Yb (zI rfl underlying108 rfl _ _ w.heap.size (hsVals S).toArray (0,0) (.bool true) (setRow_heap _ _ _ _ _ _ B) F rfl rfl) rfl ?_;rw[<- n.o];refine⟨S,true,rfl,λ _=>⟨s,by rw[<- lB];exact Z.o.1,Z.o.2.st,zk Z.o.2.own λ j hj=>?_,Z.o.2.good⟩,λ h=>(by cases h),zi Z.o.2.below (ye _) _⟩;obtain⟨_,_,cs,c⟩:=qg Z.o.2.own hj;refine setRow_other _ _ _ _ λ e=>?_;subst e;rw[B]at c;simp only[yo,Yg]at c;exact kV c.2.1 (by decide)
def IterM (P:Program) (gf:Nat) (mk:Value->Array Value) (n:Nat) (N:World->Prop) (Xp:Nat->Array Value->World->Prop):Prop :=
 ∀ (l:Nat) (J:Nat->Nat->World->Prop) (Jx:World->Prop) (W:World),
  (∀ b k W W',J b k W->Bw W W'->J b k W')->(∀ W W',Jx W->Bw W W'->Jx W') ->
  (∀ b k W',J b k W'->N W') ->
  (∀ b k args W1 o,k<n->Xp k args W1->J b k W1->W.heap.size<=b->W1.heap[b]?=some o->o.isCells=true ->
   YieldAt (FW none) 0 P l args W1 λ e W'=>(e=.returned (.bool true)/\J b (k+1) W'/\W'.heap[b]?=some o)\/(e=.returned (.bool false)/\Jx W')) ->
  (∀ b W',W.heap.size<=b->Bw W W'->J b 0 W')->CallsIn (FW none) 0 P gf (mk (.func (.yield l) #[] #[])) W λ e W'=>(∃ v,e=.returned v)/\((∃ b,J b n W')\/Jx W')
theorem DD {P:Program} {ro:Option Nat} {g:Operand} {ps:Array Tmp} {assign body:Code} {Q:Exit->Act->World->Prop} {a:Act} {w:World} {gf:Nat} {mk:Value->Array Value} {n:Nat} {N:World->Prop} {Xp:Nat->Array Value->World->Prop}
  (hro:∀ l0,ro=some l0->∃ r0,w.heap[l0]?=some (.loop r0))
  (hg:∀ (l:Nat) (W:World),∃ d,(resolve a.eval (rangeCall g l) 0).run P W=.ok d W/\(invoke d.target d.args).run P W=.ok (.enter gf (mk (.func (.yield l) #[] #[]))) W)
  (hit:IterM P gf mk n N Xp) (hps:∀ k x W,Xp k x W->x.size=ps.size)
  (I:Nat->Nat->World->Prop) (Ix:Code->World->Prop) (hI:∀ b k,Stab w.heap.size (I b k)) (hIx:∀ c,Stab w.heap.size (Ix c)) (h0:∀ b W',w.heap.size<=b->Ext w.heap.size w W'->I b 0 W')
  (hN:∀ b k W,I b k W->N W)
  (hround:∀ (b l k:Nat) (x:Array Value) (W:World) (o:Obj),k<n->Xp k x W->I b k W->w.heap.size<=l->l<b->(∃ r,W.heap[l]?=some (.loop r))->W.heap[b]?=some o->o.isCells=true ->
   assign.wpIn (FW (some l)) 0 P (Exit.then (λ a' W'=>∃ X:World->Prop,Stab w.heap.size X/\KeepsFrom w.heap.size W W'/\X W'/\W'.heap[b]?=some o /\
     ∀ W2,X W2->(∃ r,W2.heap[l]?=some (.loop r))->W2.heap[b]?=some o->body.wpIn (FW (some l)) 0 P (rPostG w.heap.size I Ix b k o W2) a' W2) (λ _ _ _=>False))
    { tmps:=(ps.zip x).foldl (λ t (p,v)=>t.setIfInBounds p v) a.tmps,defers:=[] } W)
  (hdone:∀ b ds W,RMark w.heap.size ro ds W->I b n W->Q .normal { a with defers:=ds++a.defers } W)
  (hstop:∀ ds c W,RMark w.heap.size ro ds W->Ix c W->c.wpIn (FW ro) 0 P Q { a with defers:=ds++a.defers } W) :
  (Code.rangeFunc g ps assign body).wpIn (FW ro) 0 P Q a w:=by
 refine wpIn_rangeFunc ?_;intro fn hfn;obtain⟨D,l,ds,T,B,C,Y,Z,i,y,A0,A⟩:∃ (D l:Nat) (ds:List Deferred) (T:World) (B:LoopState->Option Code->Loop),
   (w.heap.size<=l)/\(D≠l)/\(Instr.enterLoop fn a.tmps ps assign body (FW ro).round).run P w=.ok (l,ds) T/\T.heap[l]?=some (.loop (B .ready none))/\Ext w.heap.size w T /\
   (∀ W,(ro=none->W.heap[D]?=some (.deferred (some [])))->RMark w.heap.size ro ds W) /\
   ((ro=none->w.heap.size<=D/\T.heap[D]?=some (.deferred (some [])))/\∀ L pe,(B L pe).state=L/\(B L pe).pending=pe/\(B L pe).fn=fn/\(B L pe).tmps=a.tmps/\(B L pe).params=ps/\(B L pe).assign=assign/\(B L pe).body=body /\
    ∀ st' pe',{ B L pe with state:=st',pending:=pe' }=B st' pe'):=by
  cases ro with
  | none =>
   refine⟨w.heap.size,w.heap.size+1,[{ target:=.collected w.heap.size,args:=#[] }],_,λ L pe=>{ state:=L,pending:=pe,fn,tmps:=a.tmps,params:=ps,assign,body,defers:=w.heap.size },by omega,by omega,run_enterLoop_outer _ _ _ _ _,?_,?_,?_,?_,?_⟩
   ·have:=yd (w.alloc (.deferred (some []))) (.loop { state:=.ready,pending:=none,fn,tmps:=a.tmps,params:=ps,assign,body,defers:=w.heap.size });rwa [yp]at this
   ·exact Ext.of_below (((yf _ w).alloc (ye _) _).alloc (by simp) _)
   ·intro W h;exact⟨w.heap.size,ye _,rfl,h rfl⟩
   ·intro _;exact⟨ye _,(Below.heap_alloc _ _ _ (by simp)).trans (yd w _)⟩
   intro L pe;exact⟨rfl,rfl,rfl,rfl,rfl,rfl,rfl,λ _ _=>rfl⟩
  | some l0 =>
   obtain⟨r0,A5⟩:=hro l0 rfl;refine⟨w.heap.size+1,w.heap.size,[],_,λ L pe=>{ state:=L,pending:=pe,fn,tmps:=a.tmps,params:=ps,assign,body,defers:=r0.defers },ye _,by omega,run_enterLoop_inner A5 _ _ _ _ _,?_,?_,?_,?_,?_⟩
   ·exact yd w _
   ·exact Ext.of_below ((yf _ w).alloc (ye _) _)
   ·intro W _;exact rfl
   ·intro h;cases h
   intro L pe;exact⟨rfl,rfl,rfl,rfl,rfl,rfl,rfl,λ _ _=>rfl⟩
 obtain⟨V,A⟩:=A;obtain⟨d,z,A3⟩:=hg l T;refine⟨l,ds,T,d,T,gf,_,T,Z,z,λ _ _=>trivial,A3,λ h=>by simp at h,?_⟩;have j:=hit l
  (λ b k W=>I b k W/\W.heap[l]?=some (.loop (B .ready none))/\(ro=none->W.heap[D]?=some (.deferred (some []))))
  (λ W=>∃ c,Ix c W/\W.heap[l]?=some (.loop (B .done (some c)))/\(ro=none->W.heap[D]?=some (.deferred (some []))))
  T
  (λ b k W W' ⟨h1,m,h3⟩ hb=>⟨hI b k W W' h1 (Ext.of_below hb),(hb.block l (ya.1 m).1).trans m,λ e=>(hb.block D (ya.1 (h3 e)).1).trans (h3 e)⟩)
  (λ W W' ⟨c,h1,m,h3⟩ hb=>⟨c,hIx c W W' h1 (Ext.of_below hb),(hb.block l (ya.1 m).1).trans m,λ e=>(hb.block D (ya.1 (h3 e)).1).trans (h3 e)⟩)
  (λ b k W' ⟨h1,_⟩=>hN b k W' h1) ?_ (λ b W' hb hB=>⟨h0 b W' (yJ y.size hb) (y.trans (Ext.of_below hB)),(hB.block l (ya.1 i).1).trans i,λ e=>(hB.block D (ya.1 (V e).2).1).trans (V e).2⟩)
 ·refine CallsIn.mono (F:=FW ro) (R:=_) j ?_;rintro e W2 ⟨⟨v,rfl⟩,(⟨b,hi,hl,hk⟩|⟨c,hi,hl,hk⟩)⟩
  ·have J:=run_endLoop (P:=P) hl (by rw[(A _ _).1];simp);rw[(A _ _).2.1]at J;refine⟨none,_,J,hdone b ds _ (A0 _ λ e=>?_) (hI _ _ _ _ hi (Ext.putObj hl C rfl))⟩;rw[yR Y];exact hk e
  have J:=run_endLoop (P:=P) hl (by rw[(A _ _).1];simp);rw[(A _ _).2.1]at J;refine⟨some c,_,J,hstop ds c _ (A0 _ λ e=>?_) (hIx _ _ _ hi (Ext.putObj hl C rfl))⟩;rw[yR Y];exact hk e
 ·-- one round
  rintro b k x W o hkn hx ⟨hi,hl,hk⟩ hbW hob hoc;have A7:l<b:=yO (ya.1 i).1 hbW;have A2:b≠l:=by omega
  have hy:=run_yield (P:=P) (args:=x) hl (by rw[(A _ _).2.2.2.2.1];exact hps k x W hx);rw[(A _ _).2.2.1,(A _ _).2.2.2.1,(A _ _).2.2.2.2.1,(A _ _).2.2.2.2.2.1,(A _ _).2.2.2.2.2.2.1]at hy;refine⟨fn,_,assign,body,hy,roundIn_of_wpIn (F:=FW none) hfn ?_⟩;have hA:=hround b l k x W o hkn hx hi C A7 ⟨_,hl⟩ hob hoc;refine wpIn_mono hA ?_;intro e a' Wa hp
  cases e with
  | normal =>
   obtain⟨X,hX,S,A9,A4,f⟩:=hp;have s:=S.same l _ C hl rfl;have B1:ro=none->Wa.heap[D]?=some (.deferred (some [])):=λ e=>S.same D _ (V e).1 (hk e) rfl;refine⟨_,run_beginRound s (by rw[(A _ _).1]),?_⟩;have e1:({ B .ready none with state:=.busy }:Loop)=B .busy none:=by
    have h8:=(A .ready none).2.2.2.2.2.2.2 .busy none;have m:=(A .ready none).2.1;simp only[m];exact h8
   rw[e1];have A6:l<Wa.heap.size:=(ya.1 s).1;have A1:(Wa.putObj l (.loop (B .busy none))).heap[l]?=some (.loop (B .busy none)):=World.putObj_heap_same A6;have A8:ro=none->(Wa.putObj l (.loop (B .busy none))).heap[D]?=some (.deferred (some [])):=λ e=>(yR Y).trans (B1 e);refine wpIn_mono (f _ (hX _ _ A9 (Ext.putObj s C rfl)) ⟨_,A1⟩ ((yR A2).trans A4)) ?_;have U:∀ (jump:Option Code) (W3:World),KeepsFrom w.heap.size (Wa.putObj l (.loop (B .busy none))) W3 ->
     W3.heap[l]?=some (.loop (B .busy none)) /\
     (Instr.endRound l jump).run P W3=.ok (.bool jump.isNone) (W3.putObj l (.loop (B (if jump.isNone then .ready else .done) jump))) /\
     (W3.putObj l (.loop (B (if jump.isNone then .ready else .done) jump))).heap[l]?=some (.loop (B (if jump.isNone then .ready else .done) jump)) /\
     (ro=none->(W3.putObj l (.loop (B (if jump.isNone then .ready else .done) jump))).heap[D]?=some (.deferred (some []))):=λ jump W3 H=>by
    have G:=H.same _ _ C A1 rfl;have h4:=run_endRound (P:=P) jump G;rw[(A .busy none).2.2.2.2.2.2.2]at h4;exact⟨G,h4,World.putObj_heap_same (ya.1 G).1,λ e=>(yR Y).trans (H.same _ _ (V e).1 (A8 e) rfl)⟩
   intro e a3 W3 hp
   cases e with
   | normal =>
    obtain⟨H,M,B0⟩:=hp;obtain⟨G,q,O,K⟩:=U none W3 H;exact⟨_,_,q,.inl ⟨rfl,⟨hI _ _ _ _ M (Ext.putObj G C rfl),O,K⟩,(yR A2).trans B0⟩⟩
   | ret =>
    obtain⟨H,M⟩:=hp;obtain⟨G,q,O,K⟩:=U (some .ret) W3 H;exact⟨_,_,q,.inr ⟨rfl,.ret,hIx _ _ _ M (Ext.putObj G C rfl),O,K⟩⟩
   | exit id =>
    obtain⟨H,M⟩:=hp;obtain⟨G,q,O,K⟩:=U (some (.exit id)) W3 H;exact⟨_,_,q,.inr ⟨rfl,.exit id,hIx _ _ _ M (Ext.putObj G C rfl),O,K⟩⟩
   | goto t =>
    obtain⟨H,M⟩:=hp;obtain⟨G,q,O,K⟩:=U (some (.goto t)) W3 H;exact⟨_,_,q,.inr ⟨rfl,.goto t,hIx _ _ _ M (Ext.putObj G C rfl),O,K⟩⟩
   | panic ch=>exact hp.elim
   | outgrown=>exact hp.elim
  | exit id=>exact hp.elim
  | goto t=>exact hp.elim
  | ret=>exact hp.elim
  | panic ch=>exact hp.elim
  | outgrown=>exact hp.elim
def smallQ (q:Q):Prop:=(0<=q.x/\q.x<100)/\(0<=q.y/\q.y<100)/\0<=q.s/\q.s<100
theorem ry {q:Q} (h:inQ q):smallQ q:=by unfold inQ at h;unfold smallQ;omega
theorem encQw:KeyEnc Tryz.prog 56 Q.val smallQ where
 law:=lawQ
 key q ok:=by
  obtain⟨d,hd⟩:=ee;obtain⟨⟨A,B⟩,⟨C,D⟩,F,G⟩:=ok;refine eB (by kernel_rfl) (by kernel_rfl) (by rw[cellsQ];rfl) ?_;rw[hd];refine gE (d+3) underlying56 (by rw[cellsQ];rfl) (by kernel_rfl) (λ f hf=>?_);simp only[Yd,ki,or_false]at hf;rcases hf with rfl|rfl|rfl
  ·rw[cellsI];exact qK (d+2) underlying3 (ai A B)
  ·rw[cellsI];exact qK (d+2) underlying3 (ai C D)
  rw[cellsI];exact qK (d+2) underlying3 (ai F G)
 inj x y _ _ h:=by
  simp only[Q.val,Value.agg.injEq,Array.mk.injEq,YY,Value.int.injEq,true_and,and_true]at h;exact Q.ext' h.1 h.2.1 h.2.2
def bdQ (q:Q):Prop:=(-15<=q.x/\q.x<=15)/\(-15<=q.y/\q.y<=15)/\0<=q.s/\q.s<=3
theorem bR {q:Q} (h:inQ q):bdQ q:=by unfold inQ at h;unfold bdQ;omega
theorem jx {q:Q} (h:bdQ q):bdQ (trM q):=by unfold bdQ at *;unfold trM;simp only;omega
theorem Bg {q:Q} (h:bdQ q):bdQ (trT q):=by unfold bdQ at *;unfold trT;simp only;omega
theorem eU {q:Q} (h:bdQ q):∀ n,bdQ (trN n q)
 | 0=>h
 | n+1=>Bg (eU h n)
theorem ux {q:Q} (h:bdQ q) (m:Bool) (n:Nat):bdQ (tr m n q):=by
 unfold tr;split
 ·exact eU (jx h) n
 exact eU h n
theorem fQ (f:Q->Int):∀ (l:List Q) (m:Int),(l.foldl (λ m q=>min m (f q)) m<=m/\∀ q∈l,l.foldl (λ m q=>min m (f q)) m<=f q)/\(l.foldl (λ m q=>min m (f q)) m=m\/∃ q∈l,l.foldl (λ m q=>min m (f q)) m=f q)
 | [],m=>⟨⟨Int.le_refl _,λ q hq=>by cases hq⟩,.inl rfl⟩
 | a :: l,m=>by
  obtain⟨⟨h1,h2⟩,h3⟩:=fQ f l (min m (f a));simp only[Yu];refine⟨⟨by omega,λ q hq=>?_⟩,?_⟩
  ·rcases Yd.1 hq with rfl|hq
   ·omega
   exact h2 q hq
  rcases h3 with h3|⟨q,hq,h3⟩
  ·by_cases hm:m<=f a
   ·left;omega
   right;exact⟨a,by simp,by omega⟩
  right;exact⟨q,by simp[hq],h3⟩
def zV (f:Q->Int) (L:List Q) (i:Nat):Int:=(L.take i).foldl (λ m q=>min m (f q)) 16
theorem dv {f:Q->Int} {L:List Q} {i:Nat} {q:Q} (h:L[i]?=some q):zV f L (i+1)=min (zV f L i) (f q):=by
 unfold zV;rw[zn h,kt];rfl
theorem cF {f:Q->Int} {L:List Q} (h:∀ q∈L,-15<=f q) (i:Nat):-15<=zV f L i/\zV f L i<=16:=by
 obtain⟨⟨B,_⟩,A⟩:=fQ f (L.take i) 16;unfold zV;refine⟨?_,B⟩;rcases A with A|⟨q,hq,A⟩
 ·omega
 have:=h q (Yx hq);omega
theorem eH {f:Q->Int} {L:List Q} (h0:L≠[]) (h:∀ q∈L,f q<=15):zV f L L.length=minL f L:=by
 obtain⟨⟨C,B⟩,A⟩:=fQ f L 16;unfold zV;rw[Yc];refine(bO ?_ B).symm;rcases A with A|⟨q,hq,A⟩
 ·cases L with
  | nil=>exact kV rfl h0
  | cons a l =>
   have:=h a (by simp);have:=B a (by simp);omega
 exact⟨q,hq,A.symm⟩
def waysN (g:List Q) (i:Nat):List (List Nat):=(List.range i).filterMap (wayT g)
theorem ij {g:List Q} {i:Nat} {w:List Nat} (h:wayT g i=some w):waysN g (i+1)=waysN g i++[w]:=by
 unfold waysN;rw[Yk,List.filterMap_append];simp[h]
theorem nD {g:List Q} {i:Nat} (h:wayT g i=none):waysN g (i+1)=waysN g i:=by
 unfold waysN;rw[Yk,List.filterMap_append];simp[h]
theorem rk {g:List Q} {i j:Nat} (h:i<=j):∃ l,waysN g j=waysN g i++l:=by
 induction j with
 | zero=>obtain rfl:i=0:=by omega
         exact⟨[],by simp⟩
 | succ j ih =>
  by_cases e:i=j+1
  ·subst e;exact⟨[],by simp⟩
  obtain⟨l,A⟩:=ih (by omega)
  cases hw:wayT g j with
  | none=>exact⟨l,by rw[nD hw,A]⟩
  | some w=>exact⟨l++[w],by rw[ij hw,A,kw]⟩
theorem ml {g:List Q} {i:Nat} {w:List Nat} (hi:i<8) (h:wayT g i=some w):(waysT g)[(waysN g i).length]?=some w:=by
 obtain⟨l,A⟩:=rk (g:=g) (show i+1<=8 by omega);have:waysT g=waysN g 8:=rfl;rw[this,A,ij h];simp
def imgT (g:List Q) (i:Nat):List Q:=g.map (tr (decide (4<=i)) (i % 4))
def atT (g:List Q) (dx dy:Int) (q:Q):Option Nat:=g.findIdx? λ r=>decide (r=sh dx dy q)
theorem ny (g:List Q) (i:Nat):wayT g i=(imgT g i).mapM (atT g (leftL g-leftL (imgT g i)) (lowL g-lowL (imgT g i))):=rfl
theorem mg {α β:Type} (f:α->Option β) (l:List α) (x:α):(l++[x]).mapM f=(l.mapM f).bind λ a=>(f x).map λ b=>a++[b]:=by
 rw[List.mapM_append]
 cases l.mapM f <;> cases h:f x <;> simp[h]
theorem xQ {α β:Type} {f:α->Option β} {l:List α} {i:Nat} (h:(l.take i).mapM f=none):l.mapM f=none:=by
 rw[<- List.take_append_drop i l,List.mapM_append,h];rfl
theorem mu {α β:Type} {f:α->Option β} {l:List α} {T:List β} (h:l.mapM f=some T):T.length=l.length:=by
 induction l generalizing T with
 | nil=>simp at h;subst h;rfl
 | cons a l ih =>
  rw[List.mapM_cons]at h
  cases hf:f a with
  | none=>rw[hf]at h;cases h
  | some b =>
   cases hl:l.mapM f with
   | none=>rw[hf,hl]at h;cases h
   | some T' =>
    rw[hf,hl]at h
    cases h
    simp[ih hl]
theorem oM {g:List Q} {dx dy:Int} {q:Q} {n:Nat} (h:atT g dx dy q=some n):g[n]?=some (sh dx dy q)/\n<g.length:=by
 obtain⟨A,B,_⟩:=List.findIdx?_eq_some_iff_getElem.1 h;simp only[yS]at B;exact⟨by rw[yb A,B],A⟩
theorem uJ {g:List Q} {dx dy:Int} {q:Q} (h:atT g dx dy q=none):sh dx dy q∉g:=by
 unfold atT at h;rw[List.findIdx?_eq_none_iff]at h;intro hq;have:=h _ hq;simp at this
theorem aH:(Tryz.prog.info? 3).map (λ i=>(i.zero,i.size,i.bytes))=some (some (.int .i64 0),1,8):=by kernel_rfl
theorem pQ (W:World) (v:Value) (T:TypeId):∀ (j:Nat) (u:Value),([v]:List Value)[j]?=some u->(W.alloc (.cells #[v] T)).cell? ((⟨W.heap.size,0,none⟩:Addr).add j)=some u :=
 zD (yd W (.cells ([v]:List Value).toArray T))
theorem lj {W:World} {tb:Nat} {a b c:Value} {T:TypeId} (h:W.heap[tb]?=some (.cells #[a,b,c] T)) (u:Value):(W.setCell ⟨tb,0,none⟩ u).heap[tb]?=some (.cells #[u,b,c] T):=by
 rw[yI W tb 0 _ _ u h];rfl
theorem jP {W:World} {tb:Nat} {a b c:Value} {T:TypeId} (h:W.heap[tb]?=some (.cells #[a,b,c] T)) (u:Value):(W.setCell ⟨tb,1,none⟩ u).heap[tb]?=some (.cells #[a,u,c] T):=by
 rw[yI W tb 1 _ _ u h];rfl
theorem qd {W:World} {tb:Nat} {a b c:Value} {T:TypeId} (h:W.heap[tb]?=some (.cells #[a,b,c] T)) (u:Value):(W.setCell ⟨tb,2,none⟩ u).heap[tb]?=some (.cells #[a,b,u] T):=by
 rw[yI W tb 2 _ _ u h];rfl
structure SyI (B:Nat) (w W:World) (u:Value) (L:List Q):Prop where
 own:OwnQ W B u L
 below:Below B w W
 base:B<=W.heap.size
theorem SyI.keep {B:Nat} {w W W':World} {u:Value} {L:List Q} (h:SyI B w W u L) (e:Bw W W'):SyI B w W' u L :=
 ⟨h.own.below e,h.below.trans (e.mono h.base),yJ h.base e.size⟩
theorem SyI.cell {B:Nat} {w W:World} {u:Value} {L:List Q} (h:SyI B w W u L) {b:Nat} (hb:B<=b) (hu:u.ownBlock≠some b) (j:Nat) (z:Value):SyI B w (W.setCell ⟨b,j,none⟩ z) u L:=by
 refine⟨World.ownsRow.kept (row:=some b) h.own ⟨rfl,rfl,rfl,by simp,λ k _ hk=>yq W ⟨b,j,none⟩ k z (λ e=>hk (by rw[e]))⟩ ?_,h.below.setCell (by simp;omega) _,by simpa using h.base⟩;by_cases hv:u.ownBlock=none
 ·exact .inl hv
 exact .inr hu
theorem SyI.grow {B:Nat} {w W W':World} {u u':Value} {L L':List Q} (h:SyI B w W u L) {g:Option Nat} (hg:W.grownBy W' g) (hb:∀ k,g=some k->B<=k) (ho:OwnQ W' B u' L'):SyI B w W' u' L' :=
 ⟨ho,h.below.grown hg h.base hb,yJ h.base hg.size⟩
def WyP (g:List Q) (k:Nat) (x:Array Value) (W:World):Prop:=∃ (v:Value) (way:List Nat),(waysT g)[k]?=some way/\x=#[v]/\RI.Own W 0 v (way.map λ n:Nat=>(n:Int))
theorem AP {t:Tk} {L:List E} (hgr:checkN t.ground=0) (h64:t.ground.length<=64) (bb:Nat) (bv:BV) (ps:List (List HP)) (bel:W3) :
  IterM Tryz.prog 39 (λ y=>#[.pointer (some ⟨bb,0,none⟩),y]) (waysT t.ground).length (λ W=>BdAt W bb bv t L ps bel) (WyP t.ground):=by
 intro l J Jx W hJ hJx hN hY h0;obtain⟨vg,vk,vc,vf,vb,qm,em,pv,O6⟩:=bv;have r:=yK (qj hgr).1.1;have I9:=yK (qj hgr).1.2;have A9:=yK (qj hgr).2.1;have HJ:=yK hJ;clear hJ;have O7:=yK hJx;clear hJx;have HN:=yK hN;clear hN;have HY:=yK hY;clear hY;have H0:=yK h0;clear h0;have M:=HN.o _ _ _ (H0.o W.heap.size W (ye _) (yf _ W));obtain⟨gp,gc,H5⟩:=M.ground.slice;simp only at H5;subst H5;obtain⟨ga,rfl,B4⟩:∃ ga,gp=some ga/\QsAt W ga t.ground:=by
  rcases M.ground with⟨_,h⟩|⟨a,c,h1,_,_,h4⟩
  ·exact kV h A9.o
  simp only[yC]at h1;exact⟨a,h1.1,h4⟩
 have D6:=yK B4;clear B4;have G8:=yd W (.cells #[.int .i64 16,.int .i64 16,.int .i64 0] 56);have I2:Bw W (W.alloc (.cells #[.int .i64 16,.int .i64 16,.int .i64 0] 56)):=(yf _ W).alloc (ye _) _;have V:=M.blk;simp only at V;have b0:(W.alloc (.cells #[.int .i64 16,.int .i64 16,.int .i64 0] 56)).cell? ⟨bb,0,none⟩=some (.slice (some ga) t.ground.length gc):=by
  simp only[World.cell?,heapO _ V];rfl
 clear M V;refine callsIn_of_wp func39 rfl trivial ?_ rfl;simp only[ntmps39,YK,yA,yN,Nat.reduceAdd,Nat.reduceSub,YS,YR,km,YV,Yj,Yf];gi_wp2_with fail;have H1:=yK (YP I2 G8);clear I2 G8 b0;revert H1;generalize W.alloc (.cells #[.int .i64 16,.int .i64 16,.int .i64 0] 56)=w1;intro H1
 gi_loopw [25] (λ z wr=>∃ i:Nat,i<=t.ground.length/\z=.int .i64 i/\Hid (Bw W wr/\wr.heap[W.heap.size]?=some (.cells #[.int .i64 (zV (·.x) t.ground i),.int .i64 (zV (·.y) t.ground i),.int .i64 0] 56))) (λ z _=>t.ground.length-(intOf z).toNat)
 case atStart=>exact⟨0,by omega,rfl,H1⟩
 case round =>
  clear H1;obtain⟨i,hi,rfl,B⟩:=hrel;by_cases hlt:i<t.ground.length
  ·obtain⟨q,A⟩:∃ q,t.ground[i]?=some q:=⟨_,yb hlt⟩;have M:=bR (r.o q (yg A));have H:=D6.o.below B.o.1;have c0:=H.at0 i q A;have c1:=H.at1 i q A;have c2:=H.at2 i q A;have g:Hid (zV (·.x) t.ground (i+1)=min (zV (·.x) t.ground i) q.x):=yK (dv A);have b:Hid (zV (·.y) t.ground (i+1)=min (zV (·.y) t.ground i) q.y):=yK (dv A);obtain⟨F,G⟩:=cF (f:=(·.x)) (λ q A=>(bR (r.o q A)).1.1) i;obtain⟨D,C⟩:=cF (f:=(·.y)) (λ q A=>(bR (r.o q A)).2.1.1) i;obtain⟨hB,hO⟩:=B.o;clear H A B;obtain⟨N,O,qs⟩:=q;simp only at c0 c1 c2 g b;unfold bdQ at M;simp only at M;obtain⟨⟨M3,J2⟩,⟨N6,M9⟩,N0,M6⟩:=M;revert F G D C g b hO;generalize zV (·.x) t.ground i=X;generalize zV (·.y) t.ground i=Y;intro F G D C hO g b;have e1:(if N<X then N else X)=min X N:=by split <;> omega
   have e2:(if O<Y then O else Y)=min Y O:=by split <;> omega
   have D0:=hB.alloc hB.size (.cells #[.int .i64 N,.int .i64 O,.int .i64 qs] 56);have A7:=heapO (.cells #[.int .i64 N,.int .i64 O,.int .i64 qs] 56) hO;have B6:=yd wr (.cells #[.int .i64 N,.int .i64 O,.int .i64 qs] 56);have S:wr.heap.size≠W.heap.size:=(by have:=(ya.1 hO).1;omega);clear hB hO
   gi_upto_region 4 with fail
   clear c0 c1 c2;revert D0 A7 B6;generalize wr.alloc (.cells #[.int .i64 N,.int .i64 O,.int .i64 qs] 56)=w3;intro D0 A7 B6;have o0:w3.cell? ⟨W.heap.size,0,none⟩=some (.int .i64 X):=(by simp[World.cell?,A7]);have o1:w3.cell? ⟨W.heap.size,1,none⟩=some (.int .i64 Y):=(by simp[World.cell?,A7]);have q0:w3.cell? ⟨wr.heap.size,0,none⟩=some (.int .i64 N):=(by simp[World.cell?,B6]);have q1:w3.cell? ⟨wr.heap.size,1,none⟩=some (.int .i64 O):=(by simp[World.cell?,B6]);have E7:(w3.drewN 1).heap[W.heap.size]?=_:=A7;have A1:=lj E7 (.int .i64 (min X N));have D7:=jP A1 (.int .i64 (min Y O));have A0:=yK (run_store_int (P:=Tryz.prog) (T:=3) (k:=.i64) (n:=min X N) sizeOf3 (w:=w3.drewN 1) (q:=⟨W.heap.size,0,none⟩) o0 (frozen_of_row _ _ 0 _ _ E7));have D9:Bw W (((w3.drewN 1).setCell ⟨W.heap.size,0,none⟩ (.int .i64 (min X N))).setCell ⟨W.heap.size,1,none⟩ (.int .i64 (min Y O))):=((D0.trans (below_drewN W.heap.size w3 1)).setCell (by simp) _).setCell (by simp) _;have E4:((w3.drewN 1).setCell ⟨W.heap.size,0,none⟩ (.int .i64 (min X N))).cell? ⟨wr.heap.size,1,none⟩=some (.int .i64 O):=(cell_of_block (x:=⟨wr.heap.size,1,none⟩) (yq _ _ _ _ S)).trans q1;revert A1 D7 D9 A0 E4;generalize (w3.drewN 1).setCell ⟨W.heap.size,0,none⟩ (.int .i64 (min X N))=w5;intro A1 D7 A0 D9 E4;have I6:w5.cell? ⟨W.heap.size,1,none⟩=some (.int .i64 Y):=(by simp[World.cell?,A1]);have C3:=yK (run_store_int (P:=Tryz.prog) (T:=3) (k:=.i64) (n:=min Y O) sizeOf3 (w:=w5) (q:=⟨W.heap.size,1,none⟩) I6 (frozen_of_row _ _ 1 _ _ A1));have HH:=yK (YP D9 D7);clear D9 D7 A1 I6 E7 A7 B6 D0;refine eT [11,13] [0,0,0,0,0,0,0,1,1,1,0,0,1,0] (by kernel_rfl) (by kernel_rfl) (λ m w'=>match m with|0=>∃ n,w'=w3.drewN n|1=>∃ n,w'=w5.drewN n|_=>True) ⟨1,rfl⟩ ?_
   repeat(first|(refine aK (by rfl) ?_)|(refine bl (by rfl) (by rfl) (by rfl) ?_;(try dsimp only);go_big_quiet_step (fail);refine wpQuiet_nil ?_)|(refine dK (by rfl) (by decide) (by rfl) rfl ?_;(try dsimp only);go_big_quiet_step (fail);refine wpQuiet_nil ?_;go_big_quiet_step (fail);refine wpQuiet_nil ⟨rfl,?_⟩))
   refine cN ?_;refine zJ rfl rfl rfl rfl rfl A0.o ⟨0,rfl⟩ ?_;refine zJ rfl rfl rfl rfl rfl C3.o trivial ?_;refine aT ?_;clear o0 o1 q0 q1 E4 A0 C3 S e1 e2;gi_wp2_with fail
   go_roundw
   case rel=>exact⟨i+1,by omega,by go_num,yK ⟨HH.o.1,by rw[g.o,b.o];exact HH.o.2⟩⟩
   case measure=>simp[intOf];omega
  obtain rfl:i=t.ground.length:=by omega
  have hR:=B.o;rw[eH A9.o (λ q A=>(bR (r.o q A)).1.2),eH A9.o (λ q A=>(bR (r.o q A)).2.1.2)]at hR;have R:Hid (J W.heap.size (waysN t.ground 0).length wr/\wr.heap[W.heap.size]?=some (.cells #[.int .i64 (leftL t.ground),.int .i64 (lowL t.ground),.int .i64 0] 56)/\W.heap.size<wr.heap.size) :=
   yK ⟨H0.o _ _ (ye _) hR.1,hR.2,(ya.1 hR.2).1⟩
  clear B hR H0;have J3:0<=leftL t.ground/\leftL t.ground<=15:=by
   obtain⟨q,A,e⟩:=az (·.x) A9.o;have:=r.o q A;unfold inQ at this;unfold leftL;omega
  have L7:0<=lowL t.ground/\lowL t.ground<=15:=by
   obtain⟨q,A,e⟩:=az (·.y) A9.o;have:=r.o q A;unfold inQ at this;unfold lowL;omega
  obtain⟨gx,C2⟩:∃ gx,leftL t.ground=gx:=⟨_,rfl⟩;obtain⟨gy,B7⟩:∃ gy,lowL t.ground=gy:=⟨_,rfl⟩;rw[C2]at R J3;rw[B7]at R L7;have L1:=yK C2;clear C2;have M1:=yK B7;clear B7;gi_wp2_with fail
  gi_loopw [42] (λ z wr=>∃ i:Nat,i<=8/\z=.int .i64 i/\Hid (J W.heap.size (waysN t.ground i).length wr/\wr.heap[W.heap.size]?=some (.cells #[.int .i64 gx,.int .i64 gy,.int .i64 0] 56)/\W.heap.size<wr.heap.size)) (λ z _=>8-(intOf z).toNat)
  case atStart=>exact⟨0,by omega,rfl,R⟩
  clear R;obtain⟨i,hi,rfl,B⟩:=hrel;by_cases hlt:i<8
  ·have M:=HN.o _ _ _ B.o.1;have V:=M.blk;simp only at V;have b0:wr.cell? ⟨bb,0,none⟩=some (.slice (some ga) t.ground.length gc):=(by simp only[World.cell?,V];rfl);have B4:QsAt wr ga t.ground:=by
    rcases M.ground with⟨h,_⟩|⟨a,c,h1,_,_,h4⟩
    ·cases h
    simp only[yC,yo]at h1;rw[h1.1];exact h4
   have D6:=yK B4;clear B4;have N5:=yK M;clear M V;obtain⟨m,hm⟩:∃ m,decide (4<=i)=m:=⟨_,rfl⟩;obtain⟨k,hk⟩:∃ k,i % 4=k:=⟨_,rfl⟩;have I0:((i:Int) % 4)=(k:Int):=(by omega);have N3:k<4:=(by omega);have C5:decide ((4:Int)<=i)=m:=(by rw[<- hm,kE];omega);have E0:Hid (imgT t.ground i=t.ground.map (tr m k)):=yK (by unfold imgT;rw[hm,hk]);have I5:Hid (SyI wr.heap.size wr wr (.slice none 0 0) ((t.ground.take 0).map (tr m k))):=yK ⟨⟨rfl,.inl ⟨rfl,rfl⟩⟩,yf _ _,ye _⟩;have D3:=yK (λ q A=>ux (bR (r.o q A)) m k);clear hm hk;obtain⟨wo,F5⟩:∃ wo:World,wo=wr:=⟨_,rfl⟩;gi_wp2_with fail;have H8:decide ((i:Int)<8)=true:=yw (by omega);rw[H8];clear H8
   gi_loopw [8,9,10,51] (λ u u1 u2 z wr=>∃ j:Nat,j<=t.ground.length/\z=.int .i64 j/\u1=.int .i64 (zV (·.x) (t.ground.map (tr m k)) j)/\u2=.int .i64 (zV (·.y) (t.ground.map (tr m k)) j)/\Hid (SyI wo.heap.size wo wr u ((t.ground.take j).map (tr m k)))) (λ _ _ _ z _=>t.ground.length-(intOf z).toNat)
   case atStart=>exact⟨0,by omega,rfl,rfl,rfl,by rw[F5];exact I5⟩
   clear I5 b0;rw[<- F5]at B D6 N5;clear F5;have F4:=B;clear B;obtain⟨j,hj,rfl,rfl,rfl,B⟩:=hrel;have C1:((t.ground.take j).map (tr m k)).length=j:=(by rw[yB,Ye];omega);obtain⟨p',c',rfl⟩:=zf B.o.own;rw[C1]at B ⊢;by_cases hlt:j<t.ground.length
   ·obtain⟨q,A⟩:∃ q,t.ground[j]?=some q:=⟨_,yb hlt⟩;have G4:=r.o q (yg A);have E9:=yK (bR G4);clear G4;have H:=D6.o.below B.o.below;have c0:=H.at0 j q A;have c1:=H.at1 j q A;have c2:=H.at2 j q A;have F2:Hid ((Value.slice p' j c').ownBlock≠some wr.heap.size):=yK (λ e=>by have:=(B.o.own.lt _ e).2;omega);have C7:(t.ground.map (tr m k))[j]?=some (tr m k q):=(by rw[yQ,A];rfl);have g:Hid (zV (·.x) (t.ground.map (tr m k)) (j+1)=min (zV (·.x) (t.ground.map (tr m k)) j) (tr m k q).x):=yK (dv C7);have b:Hid (zV (·.y) (t.ground.map (tr m k)) (j+1)=min (zV (·.y) (t.ground.map (tr m k)) j) (tr m k q).y):=yK (dv C7);have Z:∀ q∈t.ground.map (tr m k),bdQ q:=λ q A=>by
     obtain⟨p,hp,rfl⟩:=yP.1 A;exact D3.o p hp
    obtain⟨F,G⟩:=cF (f:=(·.x)) (λ q A=>(Z q A).1.1) j;obtain⟨D,C⟩:=cF (f:=(·.y)) (λ q A=>(Z q A).2.1.1) j;have B5:Hid ((t.ground.take (j+1)).map (tr m k)=(t.ground.take j).map (tr m k)++[tr m k q]):=yK (by rw[zn A,Yl];rfl);have O3:=yK (D3.o q (yg A));clear H A C7 Z;obtain⟨q1,D5⟩:∃ q1:Q,q1=if m then trM q else q:=⟨_,rfl⟩
    have e1:tr m k q=trN k q1:=(by rw[D5];rfl);have M4:Hid (bdQ q1):=yK (by rw[D5];split;exact jx E9.o;exact E9.o);rw[e1]at g b B5 O3;clear e1;obtain⟨N,O,qs⟩:=q;simp only at c0 c1 c2;have A6:=E9.o;unfold bdQ at A6;simp only at A6;obtain⟨⟨L0,N2⟩,⟨M5,M2⟩,O0,O1⟩:=A6;have J8:=yK D5;clear D5;revert F G D C g b;generalize zV (·.x) (t.ground.map (tr m k)) j=X;generalize zV (·.y) (t.ground.map (tr m k)) j=Y;intro F G D C b g;obtain⟨wq,rfl⟩:∃ wq:World,wq=wr:=⟨_,rfl⟩;have F1:wo.heap.size<=wq.heap.size:=B.o.base;rcases (by cases m;exact .inl rfl;exact .inr rfl:m=false\/m=true)with hm|hm
    all_goals
     rw[hm]at C5
     have HM:=yK hm
     clear hm
     gi_wp2_with fail
     gi_loopw [69] (λ z W3=>∃ (v:Nat) (x' y' s':Int),v<=k/\z=.int .i64 v/\Hid ((⟨x',y',s'⟩:Q)=trN v q1/\W3.heap[wq.heap.size]?=some (.cells #[.int .i64 x',.int .i64 y',.int .i64 s'] 56)/\SyI wo.heap.size wo W3 (.slice p' j c') ((t.ground.take j).map (tr m k)))) (λ z _=>k-(intOf z).toNat)
     case atStart =>
      refine⟨0,_,_,_,by omega,rfl,yK ⟨?_,yd wq _,B.o.keep ((yf _ wq).alloc (ye _) _)⟩⟩;show _=q1;rw[J8.o,HM.o]
      first
       | rfl
       | exact Q.ext' rfl rfl (by simp only[if_true,trM];omega)
     case round =>
      clear c0 c1 c2 C5;obtain⟨v,x',y',s',O8,rfl,A5⟩:=hrel;have F6:bdQ ⟨x',y',s'⟩:=(by rw[A5.o.1];exact eU M4.o v);unfold bdQ at F6;simp only at F6;obtain⟨⟨M3,J2⟩,⟨N6,M9⟩,N0,M6⟩:=F6;have hW:=A5.o.2.1;have d0:wr.cell? ⟨wq.heap.size,0,none⟩=some (.int .i64 x'):=(by simp[World.cell?,hW]);have d1:wr.cell? ⟨wq.heap.size,1,none⟩=some (.int .i64 y'):=(by simp[World.cell?,hW]);have d2:wr.cell? ⟨wq.heap.size,2,none⟩=some (.int .i64 s'):=(by simp[World.cell?,hW]);by_cases hkt:v<k
      ·have f0:wr.frozen? ⟨wq.heap.size,0,none⟩=false:=frozen_of_row wr _ 0 _ _ hW;have f1:wr.frozen? ⟨wq.heap.size,1,none⟩=false:=frozen_of_row wr _ 1 _ _ hW;have f2:wr.frozen? ⟨wq.heap.size,2,none⟩=false:=frozen_of_row wr _ 2 _ _ hW;have HW:=yK hW;clear hW;gi_wp2_with fail
       go_roundw
       case rel =>
        refine⟨v+1,-y',x',(s'+3) % 4,by omega,by go_num,yK ⟨?_,qd (jP (lj HW.o _) _) _,((A5.o.2.2.cell F1 F2.o 0 _).cell F1 F2.o 1 _).cell F1 F2.o 2 _⟩⟩;show _=trT (trN v _);rw[<- A5.o.1];rfl
       case measure=>simp[intOf];omega
      obtain rfl:v=k:=(by omega);have H3:=yK A5.o.2.2;have D2:Hid ((⟨x',y',s'⟩:Q)=trN v q1):=yK A5.o.1;have HW:=yK hW;have I3:(trN v q1).x=x':=(by rw[<- D2.o]);have H2:(trN v q1).y=y':=(by rw[<- D2.o]);rw[I3]at g;rw[H2]at b;clear I3 H2 A5 hW B;have e1:(if x'<X then x' else X)=min X x':=by split <;> omega
      have e2:(if y'<Y then y' else Y)=min Y y':=by split <;> omega
      gi_wp2_with fail;gi_quiet (fail);have G0:Hid (j+1<=maxLen):=yK (by simp only[maxLen];omega);have F7:Hid ((j+1)*24<=140737488355328):=yK (by omega);have C1:((t.ground.take j).map (tr m v)).length=j:=(by rw[yB,Ye];omega);have B2:=yK (H3.o.keep (below_drewN wr.heap.size wr nq));have A4:Hid ((wr.drewN nq).ownsRow wo.heap.size 56 3 (.slice p' j c') j (qCells ((t.ground.take j).map (tr m v)))):=yK (by have:=B2.o.own;unfold OwnQ at this;rwa [C1]at this);have D4:wo.heap.size<=(wr.drewN nq).heap.size:=B2.o.base;clear C1;have d0:(wr.drewN nq).cell? ⟨wq.heap.size,0,none⟩=some (.int .i64 x'):=d0;have d1:(wr.drewN nq).cell? ⟨wq.heap.size,1,none⟩=some (.int .i64 y'):=d1;have d2:(wr.drewN nq).cell? ⟨wq.heap.size,2,none⟩=some (.int .i64 s'):=d2;clear H3 HW;revert B2 A4 D4 d0 d1 d2;generalize wr.drewN nq=w6;intro B2 A4 D4 d0 d1 d2;obtain⟨iQ,J9,N1,N8,N4⟩:=info_parts infoQ;gi_wp2_with (first
       | (gi_at_builtin;refine wpListIn_append_own _ rfl _ _ 22 rfl wo.heap.size 56 iQ _ 3 24 underlying22 J9 N1 N8 N4 rfl (by decide) (.slice p' j c') j (qCells ((t.ground.take j).map (tr m v))) rfl (A4.o.alloc _) ⟨w6.heap.size,0,none⟩ 1 1 (qVals ⟨x',y',s'⟩) rfl rfl (bC ⟨x',y',s'⟩) (aV _) G0.o F7.o (by rw[yp];omega) ?_;intro v' w7 hown' hgrow _;obtain⟨M8,O2,rfl⟩:=zf hown'))
      have G1:w6.grownBy w7 (Value.slice p' j c').ownBlock:=⟨hgrow.os,hgrow.tape,hgrow.output,yJ (by simp) hgrow.size,λ k hk S=>(hgrow.block k (by simp;omega) S).trans (Below.heap_alloc _ _ _ hk)⟩;have hN:SyI wo.heap.size wo w7 (.slice M8 (j+1) O2) ((t.ground.take (j+1)).map (tr m v)):=by
       refine B2.o.grow G1 (λ z hz=>(A4.o.lt z hz).1) ?_;have e:(t.ground.take (j+1)).map (tr m v)=(t.ground.take j).map (tr m v)++[⟨x',y',s'⟩]:=(by rw[D2.o];exact B5.o);have el:((t.ground.take (j+1)).map (tr m v)).length=j+1:=(by rw[yB,Ye];omega);unfold OwnQ;rw[el,e,aw];exact hown'
      have M0:=yK hN;clear hN G1 hown' hgrow A4 B2 D2 d0 d1 d2
      go_roundw
      case rel=>exact⟨j+1,by omega,by go_num,by rw[g.o],by rw[b.o],M0⟩
      case measure=>simp[intOf];omega
   obtain rfl:j=t.ground.length:=(by omega);have Z:∀ q∈t.ground.map (tr m k),bdQ q:=λ q A=>by
    obtain⟨p,hp,rfl⟩:=yP.1 A;exact D3.o p hp
   have S:t.ground.map (tr m k)≠[]:=(by simpa using A9.o);have s:(t.ground.map (tr m k)).length=t.ground.length:=(by simp);have C8:zV (·.x) (t.ground.map (tr m k)) t.ground.length=leftL (t.ground.map (tr m k)):=(by rw[<- s];exact eH S (λ q A=>(Z q A).1.2));have C9:zV (·.y) (t.ground.map (tr m k)) t.ground.length=lowL (t.ground.map (tr m k)):=(by rw[<- s];exact eH S (λ q A=>(Z q A).2.1.2));obtain⟨F,G⟩:=cF (f:=(·.x)) (λ q A=>(Z q A).1.1) t.ground.length;obtain⟨D,C⟩:=cF (f:=(·.y)) (λ q A=>(Z q A).2.1.1) t.ground.length;rw[C8]at F G ⊢;rw[C9]at D C ⊢;have A8:Hid (wayT t.ground i=(t.ground.map (tr m k)).mapM (atT t.ground (gx-leftL (t.ground.map (tr m k))) (gy-lowL (t.ground.map (tr m k))))):=yK (by rw[ny,E0.o,L1.o,M1.o]);have B1:∀ q∈t.ground.map (tr m k),bdQ q/\leftL (t.ground.map (tr m k))<=q.x/\lowL (t.ground.map (tr m k))<=q.y:=λ q A=>⟨Z q A,aP _ A,aP _ A⟩;have U:=B.o;rw[Yc]at U;clear C8 C9 E0 Z B D3 C5 I0 N3 C1;revert F G D C A8 S s B1 U;generalize t.ground.map (tr m k)=I;intro S s F G D C A8 B1 U;obtain⟨lx,C8⟩:∃ lx,leftL I=lx:=⟨_,rfl⟩;obtain⟨ly,C9⟩:∃ ly,lowL I=ly:=⟨_,rfl⟩;rw[C8]at F G A8 B1 ⊢;rw[C9]at D C A8 B1 ⊢;clear C8 C9;have J6:=yK B1;clear B1;have L4:=yK S;clear S;have C4:=yK s;clear s;obtain⟨ia,rfl,I4⟩:∃ ia,p'=some ia/\QsAt wr ia I:=by
    rcases U.own.has with⟨_,h⟩|⟨a,c,h1,_,_,h4⟩
    ·exact kV h L4.o
    simp only[yC]at h1;exact⟨a,h1.1,h4⟩
   have H6:=yK I4;clear I4;have E8:=yK (YP U.below U.base);clear U;obtain⟨wi,E6⟩:∃ wi:World,wi=wr:=⟨_,rfl⟩;gi_wp2_with fail
   gi_loopw [13,97] (λ u z wr=>∃ (j:Nat) (T:List Nat),j<=t.ground.length/\z=.int .i64 j/\Hid ((I.take j).mapM (atT t.ground (gx-lx) (gy-ly))=some T/\RI.Own wr wi.heap.size u (T.map λ n:Nat=>(n:Int))/\Bw wi wr)) (λ _ z _=>t.ground.length-(intOf z).toNat)
   case atStart=>exact⟨0,[],by omega,rfl,yK ⟨rfl,RI.own_nil _ _,by rw[E6];exact yf _ _⟩⟩
   rw[<- E6]at H6 E8;clear E6;obtain⟨j,T,hj,rfl,B⟩:=hrel;have F9:T.length=j:=by
    have h1:=mu B.o.1;rw[Ye,C4.o]at h1;omega
   obtain⟨tp,tc,rfl⟩:=zf B.o.2.1;have A3:(T.map λ n:Nat=>(n:Int)).length=j:=(by rw[yB,F9]);rw[A3]at B ⊢;have B8:Bw wo wr:=E8.o.1.trans (B.o.2.2.mono E8.o.2);have I7:J W.heap.size (waysN t.ground i).length wr:=HJ.o _ _ _ _ F4.o.1 B8;have G5:wr.heap[W.heap.size]?=some (.cells #[.int .i64 gx,.int .i64 gy,.int .i64 0] 56):=(B8.block _ F4.o.2.2).trans F4.o.2.1;have E5:=yK I7;clear I7;have F8:=yK G5;clear G5 B8 A3;by_cases hlt:j<t.ground.length
   ·obtain⟨q,A⟩:∃ q,I[j]?=some q:=⟨_,yb (by rw[C4.o];exact hlt)⟩;obtain⟨A6,N9,L5⟩:=J6.o q (yg A);have H:=H6.o.below B.o.2.2;have c0:=H.at0 j q A;have c1:=H.at1 j q A;have c2:=H.at2 j q A;have G7:=yK (zn A);clear A H;obtain⟨N,O,qs⟩:=q;simp only at c0 c1 c2 N9 L5;unfold bdQ at A6;simp only at A6;obtain⟨⟨L0,N2⟩,⟨M5,M2⟩,O0,O1⟩:=A6;have hQ:=yd wr (.cells #[.int .i64 N,.int .i64 O,.int .i64 qs] 56);have B0:Bw wr (wr.alloc (.cells #[.int .i64 N,.int .i64 O,.int .i64 qs] 56)):=(yf _ wr).alloc (ye _) _
    gi_upto_region 27 with fail
    clear c0 c1 c2;revert hQ B0;generalize wr.alloc (.cells #[.int .i64 N,.int .i64 O,.int .i64 qs] 56)=w8;intro hQ B0;have F0:=HJ.o _ _ _ _ E5.o B0;have D1:=(B0.block _ (ya.1 F8.o).1).trans F8.o;have B9:=HN.o _ _ _ F0;have C6:=B9.blk;simp only at C6;have d1:∀ d:SubW w8,d.1.cell? ⟨bb,5,none⟩=some (.map (some qm)):=λ d=>by simp only[World.cell?,d.block C6];rfl
    have d2:∀ d:SubW w8,d.1.cell? ⟨W.heap.size,0,none⟩=some (.int .i64 gx):=λ d=>by simp only[World.cell?,d.block D1];rfl
    have d3:∀ d:SubW w8,d.1.cell? ⟨W.heap.size,1,none⟩=some (.int .i64 gy):=λ d=>by simp only[World.cell?,d.block D1];rfl
    have d4:∀ d:SubW w8,d.1.cell? ⟨wr.heap.size,0,none⟩=some (.int .i64 N):=λ d=>by simp only[World.cell?,d.block hQ];rfl
    have d5:∀ d:SubW w8,d.1.cell? ⟨wr.heap.size,1,none⟩=some (.int .i64 O):=λ d=>by simp only[World.cell?,d.block hQ];rfl
    have d6:∀ d:SubW w8,d.1.cell? ⟨wr.heap.size,2,none⟩=some (.int .i64 qs):=λ d=>by simp only[World.cell?,d.block hQ];rfl
    have G3:∀ d:SubW w8,HasM Q.val d.1 qm (numQ t.ground):=λ d=>B9.quarter.below d.2;have H7:=yK G3;clear G3;have E2:Hid ((⟨N-lx+gx,O-ly+gy,qs⟩:Q)=sh (gx-lx) (gy-ly) ⟨N,O,qs⟩):=yK (Q.ext' (by simp only[sh];omega) (by simp only[sh];omega) rfl);have E1:Hid (∀ p∈numQ t.ground,smallQ p.1):=yK λ p hp=>ry (r.o p.1 (by rw[<- bW t.ground];exact yP.2 ⟨p,hp,rfl⟩));have I1:Hid (t.ground.Nodup):=yK I9.o.nodup;have J0:=yK F0;clear F0;have L3:=yK D1;clear D1;have J4:=yK B0;clear B0;clear B9 C6 hQ
    cases hat:atT t.ground (gx-lx) (gy-ly) ⟨N,O,qs⟩with
    | none =>
     have d7:∀ d:SubW w8,(Instr.lookup 139 (.map (some qm)) (.agg #[.int .i64 (N-lx+gx),.int .i64 (O-ly+gy),.int .i64 qs]) true).run Tryz.prog d.1=.ok (.tuple #[.int .i64 0,.bool false]) d.1:=λ d =>
      zN (x:=(⟨N-lx+gx,O-ly+gy,qs⟩:Q)) encQw underlying139 (zeroValue3 _) (H7.o d) E1.o (by unfold smallQ;simp only;omega) (λ p hp e=>uJ hat (by rw[<- E2.o,<- e,<- bW t.ground];exact yP.2 ⟨p,hp,rfl⟩)) true
     have L9:Hid (wayT t.ground i=none):=yK (by
      rw[A8.o];refine xQ (i:=j+1) ?_;rw[G7.o,mg,B.o.1,hat];rfl)
     have hd:((j:Int)==(t.ground.length:Int))=false:=(by simp only[Ys,ne_eq];omega);clear hat;refine bN 27 (by kernel_rfl) (by kernel_rfl) (by kernel_rfl) ?_;simp only[yh,yj,yi,yl]
     repeat(go_big_quiet_step (fail))
     refine wpQuiet_nil ?_;intro dq;have C0:=HJ.o _ _ _ _ J0.o dq.2;have D8:=dq.block L3.o;have A2:=HN.o _ _ _ C0;have K:=A2.blk;simp only at K;revert C0 D8 K;clear A2;generalize dq.1=w9;intro C0 D8 K;have b0:w9.cell? ⟨bb,0,none⟩=some (.slice (some ga) t.ground.length gc):=(by simp only[World.cell?,K];rfl);have L2:=yK C0;have H9:=yK D8;clear d1 d2 d3 d4 d5 d6 d7 C0 D8 K;gi_wp2_with fail
     go_roundw
     case rel=>exact⟨i+1,by omega,by go_num,yK ⟨by rw[nD L9.o];exact L2.o,H9.o,(ya.1 H9.o).1⟩⟩
     case measure=>simp[intOf];omega
    | some n =>
     obtain⟨G6,P0⟩:=oM hat;have d7:∀ d:SubW w8,(Instr.lookup 139 (.map (some qm)) (.agg #[.int .i64 (N-lx+gx),.int .i64 (O-ly+gy),.int .i64 qs]) true).run Tryz.prog d.1=.ok (.tuple #[.int .i64 n,.bool true]) d.1:=λ d =>
      zB (x:=(⟨N-lx+gx,O-ly+gy,qs⟩:Q)) encQw underlying139 (H7.o d) E1.o (by rw[bW];exact I1.o) (lF (by rw[E2.o];exact G6)) true
     have J7:Hid ((I.take (j+1)).mapM (atT t.ground (gx-lx) (gy-ly))=some (T++[n])):=yK (by
      rw[G7.o,mg,B.o.1,hat];rfl)
     clear hat G6;refine bN 27 (by kernel_rfl) (by kernel_rfl) (by kernel_rfl) ?_;simp only[yh,yj,yi,yl]
     repeat(go_big_quiet_step (fail))
     refine wpQuiet_nil ?_;intro dq;have B3:=J4.o.tm dq.2;revert B3;generalize dq.1=w9;intro B3;clear d1 d2 d3 d4 d5 d6 d7;have H4:=yK (B.o.2.2.tm B3);have F3:=qf B.o.2.1 B3;have A3:(T.map λ n:Nat=>(n:Int)).length=j:=(by rw[yB,F9]);rw[A3]at F3;have G2:=yK F3;clear F3 B3;have G0:Hid (j+1<=maxLen):=yK (by simp only[maxLen];omega);have F7:Hid ((j+1)*8<=140737488355328):=yK (by omega);have D4:wi.heap.size<=w9.heap.size:=H4.o.size;clear A3;obtain⟨iI,J1,L8,M7,J5⟩:=info_parts aH;gi_wp2_with (first
      | (gi_at_builtin;refine wpListIn_append_own _ rfl _ _ 30 rfl wi.heap.size 3 iI _ 1 8 underlying30 J1 L8 M7 J5 rfl (by decide) (.slice tp j tc) j (RI.cells (T.map λ n:Nat=>(n:Int))) rfl (G2.o.alloc _) ⟨w9.heap.size,0,none⟩ 1 1 [.int .i64 n] rfl rfl (pQ _ _ _) (by simp[Value.oneCell']) G0.o F7.o (by rw[yp];omega) ?_;intro v' w10 hown' hgrow _;obtain⟨N7,L6,rfl⟩:=zf hown'))
     have HF:Hid (RI.Own w10 wi.heap.size (.slice N7 (j+1) L6) ((T++[n]).map λ n:Nat=>(n:Int))/\Bw wi w10):=yK ⟨by
      have e:((T++[n]).map λ n:Nat=>(n:Int))=(T.map λ n:Nat=>(n:Int))++[(n:Int)]:=(by simp);rw[e];refine RI.own_snoc ?_;rw[yB,F9];exact hown',(H4.o.alloc D4 _).grown hgrow (by rw[yp];omega) λ z hz=>(G2.o.lt z hz).1⟩
     clear hown' hgrow
     go_roundw
     case rel=>exact⟨j+1,T++[n],by omega,by go_num,yK ⟨J7.o,HF.o⟩⟩
     case measure=>simp[intOf];omega
   obtain rfl:j=t.ground.length:=(by omega);have E3:Hid (wayT t.ground i=some T):=yK (by
    rw[A8.o];have h1:=B.o.1;rw[<- C4.o,Yc]at h1;exact h1)
   have hd:((t.ground.length:Int)==(t.ground.length:Int))=true:=beq_self_eq_true _;have A2:=HN.o _ _ _ E5.o;have K:=A2.blk;simp only at K;have b0:wr.cell? ⟨bb,0,none⟩=some (.slice (some ga) t.ground.length gc):=(by simp only[World.cell?,K];rfl);clear A2 K;obtain⟨fn,O4,I8,O5,O9,hR⟩:=HY.o _ (waysN t.ground i).length #[.slice tp t.ground.length tc] wr _ (by
     obtain⟨h,_⟩:=yc.1 (ml (by omega) E3.o);exact h) ⟨_,T,ml (by omega) E3.o,rfl,qA B.o.2.1 (YB _)⟩ E5.o (ye _) F8.o rfl
   gi_wp2_with fail;refine hR.mono ?_;rintro e W5 (⟨rfl,hJ5,A1⟩|⟨rfl,hJx5⟩)
   ·have HF:Hid (J W.heap.size (waysN t.ground (i+1)).length W5):=yK (by
     rw[ij E3.o,yL];exact hJ5)
    have G9:=yK A1;clear A1 hJ5 b0;gi_wp2_with fail
    go_roundw
    case rel=>exact⟨i+1,by omega,by go_num,yK ⟨HF.o,G9.o,(ya.1 G9.o).1⟩⟩
    case measure=>simp[intOf];omega
   clear b0;gi_wp2_with fail;refine Yb (results_none rfl _ _ _) rfl ?_;exact⟨⟨_,rfl⟩,.inr hJx5⟩
  obtain rfl:i=8:=by omega
  gi_wp2
  go_end0
  exact⟨⟨_,rfl⟩,.inl ⟨_,B.o.1⟩⟩
section
variable {P:Program}
theorem eval_put_same {a:Act} {d:Nat} (h:d<a.tmps.size) (v:Value):(a.put (some d) v).eval (.tmp d)=v:=by
 simp[Act.put,Act.eval,h]
theorem vK {id:Nat} {Q:Exit->Act->World->Prop} {a:Act} {w:World} {o0 o1 o2 o3:Oper} {T U:TypeId} {d0 d1:Nat} {x p q:Operand} {cT cU oT oU:Array Value} {bT bU bX:Nat} {dU:TypeDesc}
  (hm:P.follows .mixedOrders=true) (hB:gB #[o0,o1,o2,o3] [2,3] [0,1,0,0]=true)
  (e0:o0.op=.build T #[]) (g0:o0.guard=none) (t0:o0.dst=some d0)
  (e1:o1.op=.load U x) (g1:o1.guard=none) (t1:o1.dst=some d1)
  (e2:o2.op=.store T p (.tmp d0)) (g2:o2.guard=none) (t2:o2.dst=none)
  (e3:o3.op=.store U q (.tmp d1)) (g3:o3.guard=none) (t3:o3.dst=none)
  (hbuilt:P.built T []=some cT) (hd0:d0<a.tmps.size) (hd1:d1<a.tmps.size) (hne:d1≠d0)
  (hx:(a.put (some d0) (.agg cT)).eval x=.pointer (some ⟨bX,0,none⟩))
  (hp:((a.put (some d0) (.agg cT)).put (some d1) (.agg cU)).eval p=.pointer (some ⟨bT,0,none⟩))
  (hq:((a.put (some d0) (.agg cT)).put (some d1) (.agg cU)).eval q=.pointer (some ⟨bU,0,none⟩))
  (hgX:w.heap[bX]?=some (.cells cU U (0,0))) (hgT:w.heap[bT]?=some (.cells oT T (0,0))) (hgU:w.heap[bU]?=some (.cells oU U (0,0)))
  (hxt:bX≠bT) (hut:bU≠bT) (hu:P.underlying U=some dU) (hrow:dU.isRow=true)
  (hiT:(P.info? T).map (·.size)=some cT.size) (hiU:(P.info? U).map (·.size)=some cU.size) (hoT:oT.size=cT.size) (hoU:oU.size=cU.size)
  (h1T:cT.all (·.oneCell')=true) (h1U:cU.all (·.oneCell')=true)
  (h:Q .normal ((a.put (some d0) (.agg cT)).put (some d1) (.agg cU)) (((w.drewN 1).setRow bT cT).setRow bU cU)) :
  (Code.region id #[o0,o1,o2,o3] true).wp P Q a w:=by
 have B:=(setRow_other (w.drewN 1) bT bU cT hut).trans hgU;have A:=(setRow_other (w.drewN 1) bT bX cT hxt).trans hgX;have I:∀ b:Act,Region.wanted o0 (yielded #[o0,o1,o2,o3] b.tmps)=true:=λ b=>by simp[Region.wanted,g0]
 have F:∀ b:Act,Region.wanted o1 (yielded #[o0,o1,o2,o3] b.tmps)=true:=λ b=>by simp[Region.wanted,g1]
 refine na (l:=[o0,o1,o2,o3]) [2,3] [0,1,0,0] hm hB (λ m w'=>match m with|0=>∃ n,w'=w.drewN n|1=>∃ n,w'=((w.drewN 1).setRow bT cT).drewN n|_=>True) ⟨1,rfl⟩ ?_;refine bl (by rfl) (by rfl) (by rw[e0];rfl) ?_;unfold wpQuiet;rw[Yz (I a)];refine⟨.agg cT,λ w' _=>?_,?_⟩
 ·unfold Oper.quietAt execOp;have H:(Instr.build T ((#[]:Array (Nat × Operand)).map λ (i,x)=>(i,a.eval x))).run P w'=.ok (.agg cT) w':=run_build w' T _ cT (by rw[<- hbuilt];simp);simp only[e0,yG,H,yz,yH];exact⟨rfl,rfl⟩
 refine wpQuiet_nil ?_;rw[t0];refine dK (by rfl) (by decide) (by rw[e1];rfl) g1 ?_;unfold wpQuiet;rw[Yz (F _)];have G:∀ W:World,W.heap[bX]?=some (.cells cU U (0,0))->(Instr.loadAt U (.pointer (some ⟨bX,0,none⟩))).run P W=.ok (.agg cU) W:=λ W hW=>by
  have:=run_loadVar_row (P:=P) W bX U U cU (0,0) _ hW hu (by cases dU <;> simp_all) hiU
  simp only[Instr.loadAt,Instr.sureAddr,yG,yH,yz,this]
 refine zx U x e1 hx (by rintro W ⟨n,rfl⟩;exact G _ hgX) ?_;refine wpQuiet_nil ?_;unfold wpQuiet;rw[Yz (F _)];refine zx U x e1 hx (by rintro W ⟨n,rfl⟩;exact G _ A) ?_;refine wpQuiet_nil ⟨rfl,?_⟩;rw[t1];refine aK (by rfl) (aK (by rfl) (cN ?_));have C:((a.put (some d0) (.agg cT)).put (some d1) (.agg cU)).eval (.tmp d0)=.agg cT:=by
  simp[Act.put,Act.eval,hd0,kj,hne]
 have D:((a.put (some d0) (.agg cT)).put (some d1) (.agg cU)).eval (.tmp d1)=.agg cU:=by
  simp[Act.put,Act.eval,hd1,kj]
 refine zJ (o:=o2) rfl g2 e2 hp C (w':=(w.drewN 1).setRow bT cT) ?_ ⟨0,rfl⟩ ?_
 ·simp only[Instr.storeAt,Instr.sureAddr,yG,yH,yz];exact run_storeVar_row (P:=P) (w.drewN 1) bT T T _ cT hgT hiT hoT h1T
 rw[t2];refine zJ (o:=o3) rfl g3 e3 hq D (w':=((w.drewN 1).setRow bT cT).setRow bU cU) ?_ trivial ?_
 ·simp only[Instr.storeAt,Instr.sureAddr,yG,yH,yz];exact run_storeVar_row (P:=P) _ bU U U _ cU B hiU hoU h1U
 rw[t3];exact aT h
end
