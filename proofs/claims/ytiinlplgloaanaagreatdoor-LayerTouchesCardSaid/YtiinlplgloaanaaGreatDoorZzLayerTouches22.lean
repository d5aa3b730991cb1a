/- Put and Norm. -/
import Derived.Test.YtiinlplgloaanaaGreatDoorZzLayerTouches17
import Derived.Test.YtiinlplgloaanaaGreatDoorZzLayerTouches19
import Derived.Test.YtiinlplgloaanaaGreatDoorZzLayerTouches21
set_option linter.all false
set_option maxRecDepth 100000
set_option maxHeartbeats 4000000
namespace Go.Proofs.YtiinlplgloaanaaGreatDoor
open Go.Proofs.Tryz Go.RowKit
attribute [local go_sem] Oper.semAt_some
def fitsP (l:List Q) (m:Bool) (t x y:Int):Prop:=(0<=t/\t<=3)/\(0<=x/\x<=15)/\(0<=y/\y<=15)/\x+widthL (imgL m t.toNat l)<=16/\y+heightL (imgL m t.toNat l)<=16
instance (l:List Q) (m:Bool) (t x y:Int):Decidable (fitsP l m t x y):=by unfold fitsP;infer_instance
def putC (l:List Q) (m:Bool) (t x y:Int):List Q × Nat :=
 if checkN l≠0 then([],checkN l)else if fitsP l m t x y then((imgL m t.toNat l).map (sh x y),0)else([],3)
def placeV (m:Bool) (t x y:Int):Value:=.agg #[.bool m,.int .i64 t,.int .i64 x,.int .i64 y]
theorem qj {l:List Q} (h:checkN l=0):okQ l/\l≠[]/\l.length<=400:=by
 unfold checkN at h;split at h
 ·cases h
 split at h
 ·rename_i h1 h2;exact⟨h2.1,h2.2,by omega⟩
 cases h
theorem dp {n a b:Int} {v:Bool} (h:decide (a<=n/\n<=b)=v) (w:World):Calls Tryz.prog 49 #[.int .i64 n,.int .i64 a,.int .i64 b] w λ e w'=>e=.returned (.bool v)/\w=w' :=
 (oC n a b w).mono λ e w' h'=>⟨h'.1.trans (by rw[h]),h'.2⟩
def putS (w:World) (v:Value) (l:List Q) (m:Bool) (t x y:Int) (W:World):Prop :=
 W.heap[w.heap.size]?=some (.cells #[.bool m,.int .i64 t,.int .i64 x,.int .i64 y] 45)/\HasQ W v l/\Bw w W
theorem lY {w:World} {v:Value} {l:List Q} {m:Bool} {t x y:Int} {W W':World} (h:putS w v l m t x y W) (e:Bw W W'):putS w v l m t x y W' :=
 ⟨(e.block _ (ya.1 h.1).1).trans h.1,h.2.1.below e,h.2.2.tm e⟩
theorem jW {w:World} {v:Value} {l:List Q} {m:Bool} {t x y:Int} {W:World} (h:putS w v l m t x y W) :
  W.cell? ⟨w.heap.size,0,none⟩=some (.bool m)/\W.cell? ⟨w.heap.size,1,none⟩=some (.int .i64 t)/\W.cell? ⟨w.heap.size,2,none⟩=some (.int .i64 x)/\W.cell? ⟨w.heap.size,3,none⟩=some (.int .i64 y):=by
 have A:=h.1;refine⟨?_,?_,?_,?_⟩ <;> simp[World.cell?,A]
theorem dR {l:List Q} {m:Bool} {t x y:Int} (h:checkN l=0) (h':¬ fitsP l m t x y):putC l m t x y=([],3):=by
 simp only[putC,h,ne_eq,not_true_eq_false,if_false,Yy h']
def putF (w:World) (v:Value) (l:List Q) (m:Bool) (t:Int):Nat->Value->World->Prop
 | 0,u,_=>u=v
 | 1,u,_=>u=gridV (layG l)
 | 2,u,_=>u=.pointer (some ⟨w.heap.size,0,none⟩)
 | 3,u,_=>u=.bool m
 | 4,u,_=>u=.pointer (some ⟨w.heap.size,1,none⟩)
 | 5,u,_=>u=.int .i64 t
 | 8,u,_=>u=gridV (movedG (turnsG t.toNat (frontG (layG l) m)))
 | 9,u,_=>u=.int .i64 (widthG (turnsG t.toNat (frontG (layG l) m)))
 | 10,u,_=>u=.int .i64 (heightG (turnsG t.toNat (frontG (layG l) m)))
 | 11,u,W=>∃ b,u=.pointer (some ⟨b,0,none⟩)/\w.heap.size+1<=b/\HasG W b zeroG
 | _,u,_=>u=.tuple #[gridV (movedG (turnsG t.toNat (frontG (layG l) m))),.int .i64 (widthG (turnsG t.toNat (frontG (layG l) m))),.int .i64 (heightG (turnsG t.toNat (frontG (layG l) m)))]
theorem wh {w:World} {v:Value} {l:List Q} {m:Bool} {t:Int} (i:Nat) (u:Value) (W W':World) (h:putF w v l m t i u W) (e:Bw W W'):putF w v l m t i u W':=by
 unfold putF at *;split at h <;> first|exact h|skip
 obtain⟨b,C,B,A⟩:=h;exact⟨b,C,B,A.below e⟩
theorem Ad (n:Nat) (W:World):(Instr.fieldAt 45 (.pointer (some ⟨n,0,none⟩)) 0).run Tryz.prog W=.ok (.pointer (some ⟨n,0,none⟩)) W:=by kernel_rfl
theorem uV (n:Nat) (W:World):(Instr.fieldAt 45 (.pointer (some ⟨n,0,none⟩)) 1).run Tryz.prog W=.ok (.pointer (some ⟨n,1,none⟩)) W:=by kernel_rfl
theorem vE (n:Nat) (W:World):(Instr.fieldAt 45 (.pointer (some ⟨n,0,none⟩)) 2).run Tryz.prog W=.ok (.pointer (some ⟨n,2,none⟩)) W:=by kernel_rfl
theorem CC (n:Nat) (W:World):(Instr.fieldAt 45 (.pointer (some ⟨n,0,none⟩)) 3).run Tryz.prog W=.ok (.pointer (some ⟨n,3,none⟩)) W:=by kernel_rfl
theorem allocG (W:World):(Instr.alloc 120 true (.tuple #[])).run Tryz.prog W=.ok (.pointer (some ⟨W.heap.size,0,none⟩)) (W.alloc (.cells zeroCells120 120)):=by
 simp[Instr.alloc,go_sem]
theorem rG {W:World} {b:Nat} {g:Grid} (h:HasG W b g) (g':Grid):(Instr.storeAt 120 (.pointer (some ⟨b,0,none⟩)) (gridV g')).run Tryz.prog W=.ok () (W.setRow b (gridA g')):=by
 have:=run_storeVar_row (P:=Tryz.prog) W b 120 120 (gridA g) (gridA g') h (by rw[size_gridA];exact sizeG) (by rw[size_gridA,size_gridA]) (zK _);simp only[gridV,Instr.storeAt,Instr.sureAddr,yG,yH,yz,this]
theorem width_le (g:Grid):widthG g<=16:=by
 rw[widthG,maxOf];rcases ct (λ i=>i % 16-leftG g+1) (cells g) 0 with h|⟨i,hi,h⟩
 ·rw[h];omega
 rw[h];have:=(qw.1 hi).1;omega
theorem ef (g:Grid):heightG g<=16:=by
 rw[heightG,maxOf];rcases ct (λ i=>i / 16-lowG g+1) (cells g) 0 with h|⟨i,hi,h⟩
 ·rw[h];omega
 rw[h];have:=(qw.1 hi).1;omega
theorem rr (g:Grid) (ok:okG g) (q:Q) (hq:memG (movedG g) q):q.x+1<=widthG g/\q.y+1<=heightG g:=by
 have hne:∃ q,memG g q:=⟨_,((cC ok).1 hq).2.2⟩;exact⟨(pO ok hne).2 q hq,(ng ok hne).2 q hq⟩
theorem put_any (l:List Q) (v:Value) (m:Bool) (t x y:Int) (w:World) (h:HasQ w v l) :
  Calls Tryz.prog 16 #[v,placeV m t x y] w λ e w'=>∃ u,e=.returned (.tuple #[u,.int .i64 (putC l m t x y).2])/\OwnQ w' w.heap.size u (putC l m t x y).1/\Bw w w':=by
 have H:=yK h;clear h;unfold placeV;go_enter func16,ntmps16;have L:Bw w (w.alloc (.cells #[.bool m,.int .i64 t,.int .i64 x,.int .i64 y] 45)):=(yf _ w).alloc (ye _) _;have M:(w.alloc (.cells #[.bool m,.int .i64 t,.int .i64 x,.int .i64 y] 45)).heap[w.heap.size]?=some (.cells #[.bool m,.int .i64 t,.int .i64 x,.int .i64 y] 45):=yd w _;go_wp2_with fail;revert L M;generalize w.alloc (.cells #[.bool m,.int .i64 t,.int .i64 x,.int .i64 y] 45)=W0;intro L M;refine(check_any l v W0 (H.o.below L)).mono ?_;rintro e w1 ⟨rfl,V⟩;have F:=(V.block _ (ya.1 M).1).trans M;have A:=L.tm V;by_cases hc:checkN l=0
 case neg =>
  have A0:((checkN l:Int) != 0)=true:=by simpa using hc
  have P:=yK hc;clear hc;go_wp2_with fail;go_ret2;refine⟨.slice none 0 0,?_,?_,A⟩
  ·rw[show putC l m t x y=([],checkN l)by simp only[putC,Yz P.o]];rfl
  rw[putC,Yz P.o];exact OwnQ.nil _ _
 have A0:((checkN l:Int) != 0)=false:=by simpa using hc
 have P:=yK hc;clear hc;have p0:w1.cell? ⟨w.heap.size,0,none⟩=some (.bool m):=by simp[World.cell?,F]
 have p1:w1.cell? ⟨w.heap.size,1,none⟩=some (.int .i64 t):=by simp[World.cell?,F]
 have p2:w1.cell? ⟨w.heap.size,2,none⟩=some (.int .i64 x):=by simp[World.cell?,F]
 have p3:w1.cell? ⟨w.heap.size,3,none⟩=some (.int .i64 y):=by simp[World.cell?,F]
 by_cases ht:0<=t/\t<=3
 case neg =>
  have vt:decide (0<=t/\t<=3)=false:=by simpa using ht
  have HP:=yK (dR P.o (show ¬ fitsP l m t x y from λ hf=>ht hf.1));clear ht;go_wp2_with (go_at_call 49;refine(dp (by assumption) _).mono ?_;rintro e w' ⟨rfl,rfl⟩);go_ret2;rw[HP.o];exact⟨.slice none 0 0,rfl,OwnQ.nil _ _,A⟩
 have vt:decide (0<=t/\t<=3)=true:=by simpa using ht
 by_cases hx:0<=x/\x<=15
 case neg =>
  have vx:decide (0<=x/\x<=15)=false:=by simpa using hx
  have HP:=yK (dR P.o (show ¬ fitsP l m t x y from λ hf=>hx hf.2.1));clear hx;go_wp2_with (go_at_call 49;refine(dp (by assumption) _).mono ?_;rintro e w' ⟨rfl,rfl⟩);go_ret2;rw[HP.o];exact⟨.slice none 0 0,rfl,OwnQ.nil _ _,A⟩
 have vx:decide (0<=x/\x<=15)=true:=by simpa using hx
 by_cases hy:0<=y/\y<=15
 case neg =>
  have vy:decide (0<=y/\y<=15)=false:=by simpa using hy
  have HP:=yK (dR P.o (show ¬ fitsP l m t x y from λ hf=>hy hf.2.2.1));clear hy;go_wp2_with (go_at_call 49;refine(dp (by assumption) _).mono ?_;rintro e w' ⟨rfl,rfl⟩);go_ret2;rw[HP.o];exact⟨.slice none 0 0,rfl,OwnQ.nil _ _,A⟩
 have vy:decide (0<=y/\y<=15)=true:=by simpa using hy
 go_wp2_with (go_at_call 49;refine(dp (by assumption) _).mono ?_;rintro e w' ⟨rfl,rfl⟩);obtain⟨k,c,A6⟩:=qj P.o;have G:=yK k;clear k;have A3:=yK c;clear c;have j:putS w v l m t x y w1.drew:=lY ⟨F,H.o.below A,A⟩ (below_drewN _ w1 1);have A1:=yK j;clear j A V F M L p0 p1 p2 p3;refine wp_region_held 12 61 [9,10] (by kernel_rfl) (by kernel_rfl) rfl (putS w v l m t x y) (putF w v l m t) (λ _ _=>lY) wh A1.o ?_ ?_
 ·simp only[yh,yj,heldFrom,heldAt];refine⟨?_,?_,?_,?_,?_,?_,?_,?_,?_,?_,?_,?_,trivial⟩
  ·intro b W vals K hI;exact qE rfl ⟨yf _ _,K.was 0 (by kernel_rfl)⟩
  ·intro b W vals K hI;obtain⟨e,f⟩:=K.val 0 32 (by kernel_rfl);have J:vals 0=v:=f;refine zS (args:=#[v]) rfl (by simp only[Yt,yM,Yh,e,J]) (enters_of func50 (by kernel_rfl) rfl) ((iL l G.o.1 v W hI.2.1).mono ?_);rintro e w' ⟨rfl,hb⟩;exact⟨_,rfl,hb,rfl⟩
  ·intro b W vals K hI;have e:b.eval (.tmp 3)=.pointer (some ⟨w.heap.size,0,none⟩):=(K.was 3 (by kernel_rfl)).trans rfl;refine lu_v (I:=Instr.fieldAt 45 (b.eval (.tmp 3)) 0) rfl ?_ ⟨yf _ _,rfl⟩;rw[e];exact Ad _ _
  ·intro b W vals K hI;obtain⟨e,f⟩:=K.val 2 34 (by kernel_rfl);have J:vals 2=.pointer (some ⟨w.heap.size,0,none⟩):=f;refine lu_v (I:=Instr.loadAt 4 (b.eval (.tmp 34))) rfl ?_ ⟨yf _ _,rfl⟩;rw[e,J];exact qh isAgg4 (jW hI).1
  ·intro b W vals K hI;have e:b.eval (.tmp 3)=.pointer (some ⟨w.heap.size,0,none⟩):=(K.was 3 (by kernel_rfl)).trans rfl;refine lu_v (I:=Instr.fieldAt 45 (b.eval (.tmp 3)) 1) rfl ?_ ⟨yf _ _,rfl⟩;rw[e];exact uV _ _
  ·intro b W vals K hI;obtain⟨e,f⟩:=K.val 4 36 (by kernel_rfl);have J:vals 4=.pointer (some ⟨w.heap.size,1,none⟩):=f;refine lu_v (I:=Instr.loadAt 3 (b.eval (.tmp 36))) rfl ?_ ⟨yf _ _,rfl⟩;rw[e,J];exact qh isAgg3 (jW hI).2.1
  ·intro b W vals K hI;obtain⟨e1,f1⟩:=K.val 1 33 (by kernel_rfl);obtain⟨e2,f2⟩:=K.val 3 35 (by kernel_rfl);obtain⟨e3,f3⟩:=K.val 5 37 (by kernel_rfl);have z:vals 1=gridV (layG l):=f1;have g2:vals 3=.bool m:=f2;have s:vals 5=.int .i64 t:=f3;refine zS (args:=#[gridV (layG l),.bool m,.int .i64 t]) rfl (by simp only[Yt,yM,Yh,e1,e2,e3,z,g2,s]) (enters_of func51 (by kernel_rfl) rfl) ?_;have h0:=jH (layG l) (qZ G.o.1) m t.toNat (by omega) W;rw[show ((t.toNat:Nat):Int)=t by omega]at h0;refine h0.mono ?_;rintro e w' ⟨rfl,hb⟩;exact⟨_,rfl,hb,rfl⟩
  ·intro b W vals K hI;obtain⟨e,f⟩:=K.val 6 38 (by kernel_rfl);exact qE rfl ⟨yf _ _,e.trans f⟩
  ·intro b W vals K hI;obtain⟨e,f⟩:=K.val 7 31 (by kernel_rfl);have J:vals 7=(.tuple #[gridV (movedG (turnsG t.toNat (frontG (layG l) m))),.int .i64 (widthG (turnsG t.toNat (frontG (layG l) m))),.int .i64 (heightG (turnsG t.toNat (frontG (layG l) m)))]:Value):=f;refine lu_v (I:=Instr.extract (b.eval (.tmp 31)) 0) rfl ?_ ⟨yf _ _,rfl⟩;rw[e,J];exact qU rfl _
  ·intro b W vals K;obtain⟨e,f⟩:=K.val 7 31 (by kernel_rfl);have J:vals 7=(.tuple #[gridV (movedG (turnsG t.toNat (frontG (layG l) m))),.int .i64 (widthG (turnsG t.toNat (frontG (layG l) m))),.int .i64 (heightG (turnsG t.toNat (frontG (layG l) m)))]:Value):=f;refine nW (I:=Instr.extract (b.eval (.tmp 31)) 1) rfl (λ W=>?_) (λ _=>rfl);rw[e,J];exact qU rfl _
  ·intro b W vals K;obtain⟨e,f⟩:=K.val 7 31 (by kernel_rfl);have J:vals 7=(.tuple #[gridV (movedG (turnsG t.toNat (frontG (layG l) m))),.int .i64 (widthG (turnsG t.toNat (frontG (layG l) m))),.int .i64 (heightG (turnsG t.toNat (frontG (layG l) m)))]:Value):=f;refine nW (I:=Instr.extract (b.eval (.tmp 31)) 2) rfl (λ W=>?_) (λ _=>rfl);rw[e,J];exact qU rfl _
  intro b W vals K hI;refine lu_v (I:=Instr.alloc 120 true (.tuple #[])) rfl (allocG W) ⟨(yf _ W).alloc (ye _) _,_,rfl,?_,?_⟩
  ·have:=(ya.1 hI.1).1;omega
  rw[zT];exact HasG.new W zeroG
 ·intro W vals hI hf;have g0:vals 8=gridV (movedG (turnsG t.toNat (frontG (layG l) m))):=hf 8 (by decide);have z:vals 9=.int .i64 (widthG (turnsG t.toNat (frontG (layG l) m))):=hf 9 (by decide);have g2:vals 10=.int .i64 (heightG (turnsG t.toNat (frontG (layG l) m))):=hf 10 (by decide);obtain⟨U,s,A7,r⟩:∃ b,vals 11=.pointer (some ⟨b,0,none⟩)/\w.heap.size+1<=b/\HasG W b zeroG:=hf 11 (by decide);have A5:HasG (W.setRow U (gridA (movedG (turnsG t.toNat (frontG (layG l) m))))) U (movedG (turnsG t.toNat (frontG (layG l) m))):=setRow_heap _ _ _ _ _ _ r;simp only[yh,yj,Yk,YD,Yj,Yf,yM,Yh,putAll,Act.put,yr,yF,yE,g0,z,g2,s];show wpActs _ _ _ _ 0 [12,13,14] _ _;refine zJ (i:=12) (T:=120) (x:=.tmp 7) (y:=.tmp 39) (q:=⟨U,0,none⟩) (v:=gridV (movedG (turnsG t.toNat (frontG (layG l) m)))) (w':=W.setRow U (gridA (movedG (turnsG t.toNat (frontG (layG l) m))))) rfl rfl rfl ?_ ?_ ?_ trivial ?_
  ·rfl
  ·rfl
  ·exact rG r _
  refine pg (i:=13) (x:=.tmp 40) rfl rfl rfl trivial ?_;refine pg (i:=14) (x:=.tmp 41) rfl rfl rfl trivial ?_;refine aT ?_;have S:=(setRow_other W U w.heap.size (gridA (movedG (turnsG t.toNat (frontG (layG l) m)))) (by omega)).trans hI.1;have B:Bw w (W.setRow U (gridA (movedG (turnsG t.toNat (frontG (layG l) m))))):=zi hI.2.2 (by omega) _;obtain⟨il,iw,ih⟩:=jg G.o A3.o m t.toNat;have a:=width_le (turnsG t.toNat (frontG (layG l) m));have p:=ef (turnsG t.toNat (frontG (layG l) m));have IL:=yK il;clear il;have C:=jn (cG (dV (qZ G.o.1) m) t.toNat);have D:=λ q (hq:memG (movedG (turnsG t.toNat (frontG (layG l) m))) q)=>rr (turnsG t.toNat (frontG (layG l) m)) (cG (dV (qZ G.o.1) m) t.toNat) q hq;clear hI hf g0 z g2 s r;revert A5 S B iw ih a p IL C D;generalize W.setRow U (gridA (movedG (turnsG t.toNat (frontG (layG l) m))))=W3;generalize movedG (turnsG t.toNat (frontG (layG l) m))=g;generalize widthG (turnsG t.toNat (frontG (layG l) m))=wd;generalize heightG (turnsG t.toNat (frontG (layG l) m))=ht';intro r S B iw ih a p IL C D;have R:=yK C;clear C;have X:=yK D;clear D;have IW:=yK iw;clear iw;have IH:=yK ih;clear ih;obtain⟨O,rfl⟩:∃ n:Nat,x=n:=⟨x.toNat,by omega⟩;obtain⟨N,rfl⟩:∃ n:Nat,y=n:=⟨y.toNat,by omega⟩;have p2:W3.cell? ⟨w.heap.size,2,none⟩=some (.int .i64 O):=by simp[World.cell?,S]
  have p3:W3.cell? ⟨w.heap.size,3,none⟩=some (.int .i64 N):=by simp[World.cell?,S]
  by_cases hfx:(16:Int)<O+wd
  case pos =>
   have hd:decide ((16:Int)<O+wd)=true:=(by simpa using hfx);go_wp2_with fail;go_ret2;have d:=dR P.o (show ¬ fitsP l m t O N from λ hf=>by have:=hf.2.2.2.1;rw[<- IW.o]at this;omega);rw[d];exact⟨.slice none 0 0,rfl,OwnQ.nil _ _,B⟩
  have hd:decide ((16:Int)<O+wd)=false:=by simpa using hfx
  by_cases hfy:(16:Int)<N+ht'
  case pos =>
   have A2:decide ((16:Int)<N+ht')=true:=(by simpa using hfy);go_wp2_with fail;go_ret2;have d:=dR P.o (show ¬ fitsP l m t O N from λ hf=>by have:=hf.2.2.2.2;rw[<- IH.o]at this;omega);rw[d];exact⟨.slice none 0 0,rfl,OwnQ.nil _ _,B⟩
  have A2:decide ((16:Int)<N+ht')=false:=by simpa using hfy
  go_wp2_with (refine Ya rfl 120 _ rfl U rfl 120 _ (0,0) _ r underlying120 rfl (by rw[size_gridA];exact sizeG) ?_);refine(mY g O N (dj R.o X.o (by omega) (by omega)) _).mono ?_;rintro e w4 ⟨rfl,Y⟩;go_wp2_with fail;refine(xE _ (lw R.o (dj R.o X.o (by omega) (by omega))) _).mono ?_;rintro e w5 ⟨u,rfl,hu,A4⟩;go_wp2_with fail;go_ret2;have Z:fitsP l m t O N:=⟨ht,hx,hy,by rw[<- IW.o];omega,by rw[<- IH.o];omega⟩;have d:putC l m t O N=((imgL m t.toNat l).map (sh O N),0):=by simp only[putC,P.o,ne_eq,not_true_eq_false,if_false,Yz Z]
  rw[d];refine⟨u,rfl,?_,(B.tm Y).trans (A4.mono (yJ B.size Y.size))⟩;rw[lW (dj R.o X.o (by omega) (by omega)),IL.o]at hu;exact OwnQ.mono hu (yJ B.size Y.size)
