/- A task as a law's argument, opened; what the rows of chapter 7 lay. -/
import Derived.Test.YtiinlplgloaanaaGreatDoorZzLayerNever33
set_option linter.all false
set_option maxRecDepth 100000
set_option maxHeartbeats 4000000
namespace Go.Proofs.YtiinlplgloaanaaGreatDoor
open Go.Proofs.Tryz Go.RowKit
theorem zg2 (p:Option Addr) (n c:Nat) (hn:n≤c) (hc:c≤maxLen) (hp:p=none→c=0) (w:World) :
  Calls Tryz.prog 138 #[.slice p n c] w λ e w'=>e=.returned (.slice p n n)∧w'=w:=by
 have hc':c≤9223372036854775807:=by simpa[maxLen]using hc
 go_enter func138,ntmps138
 cases p with
 | none =>
  obtain rfl:=hp rfl;obtain rfl:n=0:=by omega
  go_wp2_with fail;go_ret;exact⟨rfl,rfl⟩
 | some a =>
  go_wp2_with fail;go_ret;exact⟨rfl,rfl⟩
theorem qem {w:World} (x y:W3) (hx:okW x) (hy:okW y) (d:SubW w):Calls Tryz.prog 75 #[w3V x,w3V y] d.1 λ e w'=>e=.returned (w3V (andW x y))∧∃ d':SubW w,w'=d'.1:=by
 refine (both_any x y hx hy d.1).mono ?_;rintro e w' ⟨rfl,hg⟩;exact⟨rfl,⟨⟨w',d.2.trans (hg.below.mono d.2.size)⟩,rfl⟩⟩
theorem or_q {w:World} (x y:W3) (hx:okW x) (hy:okW y) (d:SubW w):Calls Tryz.prog 110 #[w3V x,w3V y] d.1 λ e w'=>e=.returned (w3V (orW x y))∧∃ d':SubW w,w'=d'.1:=by
 refine (qeR x y hx hy d.1).mono ?_;rintro e w' ⟨rfl,hg⟩;exact⟨rfl,⟨⟨w',d.2.trans (hg.below.mono d.2.size)⟩,rfl⟩⟩
def putPost (w:World) (s:HS) (ls:List HP) (p:HP) (k:Nat) (c:Int) (bel:W3) (e:Ending) (w':World):Prop :=
 ∃ (s':HS) (ok:Bool),e=.returned (.tuple #[RS.val s',.bool ok])∧(ok=true↔canPut s p c bel)∧(ok=false→s'=s) ∧
   (ok=true→s'.set=s.set ||| p.set∧s'.bord=orW s.bord p.bord∧s'.joint=orW s.joint (andW s.bord p.bord)∧s'.many=(λ j=>if j=k then s.many k+1 else s.many j)∧RP.Own w' w.heap.size s'.laid (ls++[p])) ∧
   Below w.heap.size w w'
theorem qhH (lp:Option Addr) (ln lc st b0 b1 b2 j0 j1 j2:Nat) (mn:Nat→Nat):RS.val ⟨lp,ln,lc,st,(b0,b1,b2),(j0,j1,j2),mn⟩=.agg #[.slice lp ln lc,.int .u64 st,.int .u64 b0,.int .u64 b1,.int .u64 b2,.int .u64 j0,.int .u64 j1,.int .u64 j2,
  .int .i64 (mn 0),.int .i64 (mn 1),.int .i64 (mn 2),.int .i64 (mn 3),.int .i64 (mn 4),.int .i64 (mn 5),.int .i64 (mn 6),.int .i64 (mn 7)]:=rfl
theorem qfS (k:Int) (m:Bool) (t x y:Int) (st b0 b1 b2:Nat):RP.val ⟨⟨k,m,t,x,y⟩,st,(b0,b1,b2)⟩=.agg #[.int .i64 k,.bool m,.int .i64 t,.int .i64 x,.int .i64 y,.int .u64 st,.int .u64 b0,.int .u64 b1,.int .u64 b2]:=rfl
theorem infoPc:(Tryz.prog.info? 152).map (λ i=>(i.zero,i.size,i.bytes))=some (some (.agg #[.int .i64 0,.bool false,.int .i64 0,.int .i64 0,.int .i64 0,.int .u64 0,.int .u64 0,.int .u64 0,.int .u64 0]),9,72):=by kernel_rfl
theorem qbN (p:HP):Instr.fill (λ i=>some (i*9,9)) ((Array.range (1*9)).map ((.agg #[.int .i64 0,.bool false,.int .i64 0,.int .i64 0,.int .i64 0,.int .u64 0,.int .u64 0,.int .u64 0,.int .u64 0]:Value).cells[· % (.agg #[.int .i64 0,.bool false,.int .i64 0,.int .i64 0,.int .i64 0,.int .u64 0,.int .u64 0,.int .u64 0,.int .u64 0]:Value).cells.size]!)) [(0,RP.val p)]=some (hpVals p).toArray :=
 Great.fill_whole (s:=9) (by decide) [RP.val p] _ (λ v hv=>by simp only[yU]at hv;subst hv;rfl) (by simp)
theorem qN {W:World} {b b':Nat} {e:TypeId} {size:Nat} {v:Value} {n:Nat} {xs:List Value} (h:W.ownsRow b e size v n xs) (hb:b'≤b):W.ownsRow b' e size v n xs :=
 ⟨h.1,h.2.elim .inl λ ⟨g,cap,cur,h1,h2,h3⟩=>.inr ⟨g,cap,cur,h1,yJ hb h2,h3⟩⟩
theorem zI {W:World} {g:Nat} {cs:List Value} {T:TypeId} {fr:Nat × Nat} (h:W.heap[g]?=some (.cells cs.toArray T fr)):∀ j u,cs[j]?=some u→W.cell? ((⟨g,0,none⟩:Addr).add j)=some u:=by
 intro j u hu;rw[zU];simp[World.cell?,h,hu]
theorem zd8 {W:World} {base:Nat} {lp:Option Addr} {ln lc:Nat} {ls:List HP} (own:RP.Own W base (.slice lp ln lc) ls) {g:Nat} {p:HP} (hg:W.heap[g]?=some (.cells (hpVals p).toArray 152 (0,0))) (hlen:ls.length≤1000) :
  ∃ v W',(Builtin.append_ #[102,102] 102 #[.slice lp ln ln,.slice (some ⟨g,0,none⟩) 1 1]).run Tryz.prog W=.ok v W'∧RP.Own W' W.heap.size v (ls++[p])∧Below W.heap.size W W':=by
 obtain⟨iQ,hiQ,hzQ,hsQ,hbQ⟩:=info_parts infoPc;have hone:∀ u∈hpVals p,u.oneCell'=true:=RP.one p;rcases own.2 with⟨h1,h2⟩|⟨g0,cap,cur,h1,h2,h3,h4,h5,h6,h7⟩
 ·simp only[yC]at h1;obtain⟨rfl,rfl,rfl⟩:=h1;obtain rfl:=yT.1 h2;obtain⟨v,W',hr,ho,hgr,_⟩:=run_append_own (P:=Tryz.prog) (w:=W) W.heap.size 102 102 152 iQ _ 9 72 underlying102 hiQ hzQ hsQ hbQ rfl (by decide) (.slice none 0 0) 0 [] (World.ownsRow_nil _ _ _ _) ⟨g,0,none⟩ 1 1 (hpVals p) rfl (zI hg) hone (by simp only[maxLen];omega) (by omega) (ye _);exact⟨v,W',hr,RP.own_snoc (l:=[]) ho,(yf _ W).grown hgr (ye _) (λ k hk=>by cases hk)⟩
 ·simp only[yC]at h1;obtain⟨rfl,rfl,rfl⟩:=h1;have hc:=World.ownsRow.cells own (g:=g0) rfl;obtain⟨v,W',hr,ho,hgr⟩:=run_append_arg_grows (P:=Tryz.prog) (w:=W) 102 102 152 iQ _ 9 72 underlying102 hiQ hzQ hsQ hbQ rfl (by decide) ⟨g0,0,none⟩ ls.length ls.length (RP.cells ls) (RP.cells_length ls) hc ⟨g,0,none⟩ 1 1 (hpVals p) rfl (zI hg) (by omega) (by simp only[maxLen];omega) (by omega);exact⟨v,W',hr,RP.own_snoc ho,(yf _ W).grown hgr (ye _) (λ k hk=>by cases hk)⟩
theorem qbP {w W1:World} {o1 o2 o3:Obj} (hg:Grew (((w.alloc o1).alloc o2).alloc o3) W1) :
  W1.heap[w.heap.size]?=some o1∧W1.heap[w.heap.size+1]?=some o2∧W1.heap[w.heap.size+1+1]?=some o3∧Below w.heap.size w W1∧w.heap.size+3≤W1.heap.size:=by
 have hb:=hg.below;have hs:(((w.alloc o1).alloc o2).alloc o3).heap.size=w.heap.size+3:=by simp
 have h1:(((w.alloc o1).alloc o2).alloc o3).heap[w.heap.size]?=some o1:=(Below.heap_alloc _ _ _ (by simp;omega)).trans ((Below.heap_alloc _ _ _ (by simp)).trans (yd w _));have h2:(((w.alloc o1).alloc o2).alloc o3).heap[w.heap.size+1]?=some o2:=(Below.heap_alloc _ _ _ (by simp)).trans (qas w _ _);have h3:=qa8 w o1 o2 o3;have h4:Below w.heap.size w (((w.alloc o1).alloc o2).alloc o3):=(((yf _ w).alloc (ye _) _).alloc (by simp) _).alloc (by simp;omega) _;have hz:=hb.size;exact⟨(hb.block _ (by omega)).trans h1,(hb.block _ (by omega)).trans h2,(hb.block _ (by omega)).trans h3,h4.trans (hb.mono (by omega)),by omega⟩
theorem zae (xs:Array Value) (i:Nat) (v:Value) (h:xs[i]?=some v) (W:World):(part 103 xs i).run Tryz.prog W=.ok v W:=by
 simp[part,go_sem,h]
theorem qco (x y:W3) (W:World):(Op.equalIn 10000 105 (.agg #[.int .u64 x.1,.int .u64 x.2.1,.int .u64 x.2.2]) (.agg #[.int .u64 y.1,.int .u64 y.2.1,.int .u64 y.2.2])).run Tryz.prog W=.ok (decide (x=y)) W:=by
 obtain⟨x0,x1,x2⟩:=x;obtain⟨y0,y1,y2⟩:=y;have e:decide (((x0,x1,x2):W3)=(y0,y1,y2))=(((x0:Int)==(y0:Int))&&(((x1:Int)==(y1:Int))&&((x2:Int)==(y2:Int)))):=by
  rw[Bool.eq_iff_iff,yS,Yr,Yr,beq_iff_eq,beq_iff_eq,beq_iff_eq,Prod.mk.injEq,Prod.mk.injEq];omega
 obtain⟨iu,hiu⟩:∃ i,Tryz.prog.info? 103=some i:=Option.isSome_iff_exists.1 (by kernel_rfl);rw[e,run_equalIn_array W 9999 _ _ underlying105 hiu];simp only;have hc:Tryz.prog.cellsOf 103=1:=by kernel_rfl
 rw[hc,show List.range 3=[0,1,2]from rfl];generalize (x0:Int)=a0;generalize (x1:Int)=a1;generalize (x2:Int)=a2;generalize (y0:Int)=c0;generalize (y1:Int)=c1;generalize (y2:Int)=c2;have hx0:=zae #[.int .u64 a0,.int .u64 a1,.int .u64 a2] (0*1) (.int .u64 a0) rfl;have hx1:=zae #[.int .u64 a0,.int .u64 a1,.int .u64 a2] (1*1) (.int .u64 a1) rfl;have hx2:=zae #[.int .u64 a0,.int .u64 a1,.int .u64 a2] (2*1) (.int .u64 a2) rfl;have hy0:=zae #[.int .u64 c0,.int .u64 c1,.int .u64 c2] (0*1) (.int .u64 c0) rfl;have hy1:=zae #[.int .u64 c0,.int .u64 c1,.int .u64 c2] (1*1) (.int .u64 c1) rfl;have hy2:=zae #[.int .u64 c0,.int .u64 c1,.int .u64 c2] (2*1) (.int .u64 c2) rfl;have heq:∀ a c:Int,(Op.equalIn 9999 103 (.int .u64 a) (.int .u64 c)).run Tryz.prog W=.ok (a==c) W:=λ a c=>run_equalIn_int (P:=Tryz.prog) W 9998 103 .u64 .u64 a c underlying103;simp only[Op.eqItems,yG,hx0,hy0,heq,yz]
 cases a0==c0 <;> cases h1:a1==c1 <;> cases h2:a2==c2 <;> simp only[Bool.not_true,Bool.not_false,if_true,Yo,if_false,yH,yz,yG,hx1,hx2,hy1,hy2,heq,Bool.and_true,Bool.and_false,Bool.true_and,Bool.false_and,h1,h2]
theorem zaz {P:Program} {T:TypeId} (hT:∀ w,(isAgg T).run P w=.ok false w) {W:World} {g i:Nat} {cs:Array Value} {t:TypeId} (hg:W.heap[g]?=some (.cells cs t (0,0))) {u:Value} (hi:cs[i]?=some u) (hz:∀ w,(sizeOf T).run P w=.ok 1 w) {v:Value} (hv:v.oneCell'=true) :
  (Instr.storeAt T (.pointer (some ⟨g,i,none⟩)) v).run P W=.ok () (W.setCell ⟨g,i,none⟩ v):=by
 have hf:=frozen_of_row W g i cs t hg;have hc:W.cell? ⟨g,i,none⟩=some u:=by simp[World.cell?,hg,hi]
 simp only[Instr.storeAt,Instr.sureAddr,yG,yH,yz];have hv':v.cells=#[v]:=by cases v <;> first|rfl|(simp[Value.oneCell']at hv)
 simp only[storeVar,yG,hz,yz,hv',List.size_toArray,yA,yN,Nat.zero_add,if_true];have ha:(⟨g,i,none⟩:Addr).add 0=⟨g,i,none⟩:=rfl;simp only[storeCells,store,ha]
 cases v <;> first|(simp[Value.oneCell']at hv;done)|simp[Sem.run,hc,hf,yG,Result.andThen]
theorem qeO (n:Nat) (W:World):(Instr.fieldAt 108 (.pointer (some ⟨n,0,none⟩)) 0).run Tryz.prog W=.ok (.pointer (some ⟨n,0,none⟩)) W:=by kernel_rfl
theorem zo {W:World} {base:Nat} {e:TypeId} {size:Nat} {v:Value} {n:Nat} {xs:List Value} (h:W.ownsRow base e size v n xs) {a:Addr} (ha:a.block<base) (u:Value):(W.setCell a u).ownsRow base e size v n xs :=
 ⟨h.1,h.2.elim .inl λ ⟨g,cap,cur,h1,h2,h3,h4⟩=>.inr ⟨g,cap,cur,h1,h2,(yq _ _ _ _ (by omega)).trans h3,h4⟩⟩
theorem zgE {W:World} {A:Nat} {cs:Array Value} {T:TypeId} (h:W.heap[A]?=some (.cells cs T (0,0))) (v2 v3 v4 v5 v6 v7:Value) :
  ((((((W.setCell ⟨A,2,none⟩ v2).setCell ⟨A,3,none⟩ v3).setCell ⟨A,4,none⟩ v4).setCell ⟨A,5,none⟩ v5).setCell ⟨A,6,none⟩ v6).setCell ⟨A,7,none⟩ v7).heap[A]?=some (.cells ((((((cs.setIfInBounds 2 v2).setIfInBounds 3 v3).setIfInBounds 4 v4).setIfInBounds 5 v5).setIfInBounds 6 v6).setIfInBounds 7 v7) T (0,0)) :=
 yI _ _ _ _ _ _ (yI _ _ _ _ _ _ (yI _ _ _ _ _ _ (yI _ _ _ _ _ _ (yI _ _ _ _ _ _ (yI _ _ _ _ _ _ h)))))
theorem six_other (W:World) {A k:Nat} (h:k≠A) (v2 v3 v4 v5 v6 v7:Value):((((((W.setCell ⟨A,2,none⟩ v2).setCell ⟨A,3,none⟩ v3).setCell ⟨A,4,none⟩ v4).setCell ⟨A,5,none⟩ v5).setCell ⟨A,6,none⟩ v6).setCell ⟨A,7,none⟩ v7).heap[k]?=W.heap[k]? :=
 (yq _ _ _ _ h).trans ((yq _ _ _ _ h).trans ((yq _ _ _ _ h).trans ((yq _ _ _ _ h).trans ((yq _ _ _ _ h).trans (yq _ _ _ _ h)))))
theorem qf2 {w W:World} {B A:Nat} (h:Below B w W) (hA:B≤A) (v2 v3 v4 v5 v6 v7:Value):Below B w ((((((W.setCell ⟨A,2,none⟩ v2).setCell ⟨A,3,none⟩ v3).setCell ⟨A,4,none⟩ v4).setCell ⟨A,5,none⟩ v5).setCell ⟨A,6,none⟩ v6).setCell ⟨A,7,none⟩ v7) :=
 (((((h.setCell (p:=⟨A,2,none⟩) hA v2).setCell (p:=⟨A,3,none⟩) hA v3).setCell (p:=⟨A,4,none⟩) hA v4).setCell (p:=⟨A,5,none⟩) hA v5).setCell (p:=⟨A,6,none⟩) hA v6).setCell (p:=⟨A,7,none⟩) hA v7
theorem zgW {W:World} {base:Nat} {e:TypeId} {size:Nat} {v:Value} {n:Nat} {xs:List Value} (h:W.ownsRow base e size v n xs) {A:Nat} (hA:A<base) (v2 v3 v4 v5 v6 v7:Value):((((((W.setCell ⟨A,2,none⟩ v2).setCell ⟨A,3,none⟩ v3).setCell ⟨A,4,none⟩ v4).setCell ⟨A,5,none⟩ v5).setCell ⟨A,6,none⟩ v6).setCell ⟨A,7,none⟩ v7).ownsRow base e size v n xs :=
 zo (zo (zo (zo (zo (zo h (a:=⟨A,2,none⟩) hA v2) (a:=⟨A,3,none⟩) hA v3) (a:=⟨A,4,none⟩) hA v4) (a:=⟨A,5,none⟩) hA v5) (a:=⟨A,6,none⟩) hA v6) (a:=⟨A,7,none⟩) hA v7
def zdQ (A:Nat) (W3:World) (lp:Option Addr) (ln lc:Nat) (ls:List HP) (p:HP):Nat→Value→World→Prop
 | 0,u,_=>u=.pointer (some ⟨A,0,none⟩)
 | 1,u,_=>u=.slice lp ln lc
 | 2,u,_=>u=.slice lp ln ln
 | 3,u,_=>u=RP.val p
 | 4,u,W=>∃ g,u=.slice (some ⟨g,0,none⟩) 1 1∧W.heap[g]?=some (.cells (hpVals p).toArray 152 (0,0))
 | 5,u,W=>RP.Own W W3.heap.size u (ls++[p])
 | _,u,_=>u=.pointer (some ⟨A,0,none⟩)
theorem qeA {A:Nat} {W3:World} {lp:Option Addr} {ln lc:Nat} {ls:List HP} {p:HP} (i:Nat) (u:Value) (W W':World) (h:zdQ A W3 lp ln lc ls p i u W) (e:Below W.heap.size W W'):zdQ A W3 lp ln lc ls p i u W':=by
 unfold zdQ at *;split at h <;> first|exact h|skip
 ·obtain⟨g,h1,h2⟩:=h;exact⟨g,h1,(e.block _ (ya.1 h2).1).trans h2⟩
 exact qf h e
theorem qgK (w:World) (bb:Nat) (bv:BV) (t:Tk) (L:List E) (ps:List (List HP)) (bel:W3) (hb:BdAt w bb bv t L ps bel) (hbel:okW bel)
  (s:HS) (ls:List HP) (base:Nat) (hs:RP.Own w base s.laid ls) (hs1:s.set<2 ^ 64) (hs2:okW s.bord) (hs3:okW s.joint) (hs4:∀ k,s.many k≤64) (hls:ls.length≤64)
  (p:HP) (hp1:p.set<2 ^ 64) (hp2:okW p.bord) (k:Nat) (hk:p.ld.kind=k) (c:Int) (hc:t.counts[k]?=some c) (hc0:0≤c∧c≤16) (hk8:k<8) :
  Calls Tryz.prog 112 #[.pointer (some ⟨bb,0,none⟩),RS.val s,RP.val p] w (putPost w s ls p k c bel):=by
 obtain⟨lp,ln,lc,st,⟨b0,b1,b2⟩,⟨j0,j1,j2⟩,mn⟩:=s;obtain⟨⟨kk,m,tt,x,y⟩,pst,⟨q0,q1,q2⟩⟩:=p;simp only at hk hs1 hp1;subst hk;have HB:=yK hb;clear hb;have HBEL:=yK hbel;clear hbel;have HS':=yK hs;clear hs;have H2:=yK hs2;clear hs2;have H3:=yK hs3;clear hs3;have H4:=yK hs4;clear hs4;have HP2:=yK hp2;clear hp2;have HC:=yK hc;clear hc;rw[qhH,qfS];generalize hPo:putPost w _ ls _ k c bel=Po;have HPO:=yK hPo;clear hPo;go_enter func112,ntmps112;go_wp2_with fail;refine (both_any (b0,b1,b2) (q0,q1,q2) H2.out HP2.out _).mono ?_;rintro e w1 ⟨rfl,hg⟩;obtain⟨hA,hP,hR,hB,hsz⟩:=qbP hg;clear hg;unfold w3V andW;simp only;go_wp2_with fail;have hJ:=yd w1 (.cells #[.int .u64 (b0 &&& q0:Nat),.int .u64 (b1 &&& q1:Nat),.int .u64 (b2 &&& q2:Nat)] 105);have hA':=heapO (.cells #[.int .u64 (b0 &&& q0:Nat),.int .u64 (b1 &&& q1:Nat),.int .u64 (b2 &&& q2:Nat)] 105) hA;have hP':=heapO (.cells #[.int .u64 (b0 &&& q0:Nat),.int .u64 (b1 &&& q1:Nat),.int .u64 (b2 &&& q2:Nat)] 105) hP;have hR':=heapO (.cells #[.int .u64 (b0 &&& q0:Nat),.int .u64 (b1 &&& q1:Nat),.int .u64 (b2 &&& q2:Nat)] 105) hR;have hB':=hB.alloc hB.size (.cells #[.int .u64 (b0 &&& q0:Nat),.int .u64 (b1 &&& q1:Nat),.int .u64 (b2 &&& q2:Nat)] 105);have hsW:(w1.alloc (.cells #[.int .u64 (b0 &&& q0:Nat),.int .u64 (b1 &&& q1:Nat),.int .u64 (b2 &&& q2:Nat)] 105)).heap.size=w1.heap.size+1:=yp _ _;clear hA hP hR hB;revert hJ hA' hP' hR' hB' hsW;generalize w1.alloc (.cells #[.int .u64 (b0 &&& q0:Nat),.int .u64 (b1 &&& q1:Nat),.int .u64 (b2 &&& q2:Nat)] 105)=W;revert hsz;generalize w1.heap.size=J;intro hsz hJ hA hP hR hB hsW;have hbd:=HB.out.keep hB;have hlt:k<t.counts.length:=(yc.1 HC.out).1;obtain⟨ca,cc0,hca,hcc⟩:∃ (ca:Addr) (cc0:Nat),bv.c=.slice (some ca) t.counts.length cc0∧∀ d:SubW W,d.1.cell? (ca.add k)=some (.int .i64 c):=by
  rcases hbd.counts with⟨_,h0⟩|⟨ca,cc0,h1,h2,h3,h4⟩
  ·rw[h0]at hlt;simp at hlt
  refine⟨ca,cc0,h1,λ d=>?_⟩;have:=(h4.below d.2).at_ k c HC.out 0 (.int .i64 c) rfl;simpa[RI]using this
 have hblk:=hbd.blk;rw[hca]at hblk;have a1:∀ d:SubW W,d.1.cell? ⟨w.heap.size,1,none⟩=some (.int .u64 st):=λ d=>by simp[World.cell?,d.block hA]
 have ak:∀ d:SubW W,d.1.cell? ⟨w.heap.size,8+k,none⟩=some (.int .i64 (mn k)):=λ d=>by
  rcases (by omega:k=0∨k=1∨k=2∨k=3∨k=4∨k=5∨k=6∨k=7)with rfl|rfl|rfl|rfl|rfl|rfl|rfl|rfl <;> simp[World.cell?,d.block hA]
 have p0:∀ d:SubW W,d.1.cell? ⟨w.heap.size+1,0,none⟩=some (.int .i64 k):=λ d=>by simp[World.cell?,d.block hP]
 have p5:∀ d:SubW W,d.1.cell? ⟨w.heap.size+1,5,none⟩=some (.int .u64 pst):=λ d=>by simp[World.cell?,d.block hP]
 have b2c:∀ d:SubW W,d.1.cell? ⟨bb,2,none⟩=some (.slice (some ca) t.counts.length cc0):=λ d=>by simp[World.cell?,d.block hblk]
 have be8:∀ d:SubW W,d.1.cell? ⟨bb,8,none⟩=some (.int .u64 bel.1):=λ d=>by simp[World.cell?,d.block hblk]
 have be9:∀ d:SubW W,d.1.cell? ⟨bb,9,none⟩=some (.int .u64 bel.2.1):=λ d=>by simp[World.cell?,d.block hblk]
 have be10:∀ d:SubW W,d.1.cell? ⟨bb,10,none⟩=some (.int .u64 bel.2.2):=λ d=>by simp[World.cell?,d.block hblk]
 have J0:∀ d:SubW W,d.1.cell? ⟨J,0,none⟩=some (.int .u64 (b0 &&& q0:Nat)):=λ d=>by simp[World.cell?,d.block hJ]
 have J1:∀ d:SubW W,d.1.cell? ⟨J,1,none⟩=some (.int .u64 (b1 &&& q1:Nat)):=λ d=>by simp[World.cell?,d.block hJ]
 have J2:∀ d:SubW W,d.1.cell? ⟨J,2,none⟩=some (.int .u64 (b2 &&& q2:Nat)):=λ d=>by simp[World.cell?,d.block hJ]
 clear hblk;have cc:=hcc;clear hcc;have u1:=zbC hs1 hp1;by_cases h1:st &&& pst=0
 case neg =>
  have v1:(((st &&& pst:Nat):Int) != 0)=true:=by simpa using h1
  have HN:Hid ¬ canPut ⟨lp,ln,lc,st,(b0,b1,b2),(j0,j1,j2),mn⟩ ⟨⟨k,m,tt,x,y⟩,pst,(q0,q1,q2)⟩ c bel:=yK λ h=>h1 h.1;clear h1;refine qh 35 (by kernel_rfl) (by kernel_rfl) ?_;simp only[yh,yj,yi,yl]
  repeat (go_big_quiet_step (fail))
  refine wpQuiet_nil ?_;intro dq;have hA3:=dq.block hA;have hR3:=dq.block hR;have hB3:=hB.trans (dq.2.mono hB.size);revert hA3 hR3 hB3;generalize dq.1=W3;intro hA3 hR3 hB3;clear hJ hA hP hR hB hsW hbd a1 p0 p5 ak cc b2c be8 be9 be10 J0 J1 J2;go_wp2_with (first
   | (refine Yb rfl 108 _ rfl w.heap.size rfl 108 _ (0,0) _ hA3 underlying108 rfl sizeS ?_)
   | (refine wpList_store_row rfl 108 _ _ rfl (w.heap.size+1+1) rfl 108 _ #[.slice lp ln lc,.int .u64 st,.int .u64 b0,.int .u64 b1,.int .u64 b2,.int .u64 j0,.int .u64 j1,.int .u64 j2,.int .i64 (mn 0),.int .i64 (mn 1),.int .i64 (mn 2),.int .i64 (mn 3),.int .i64 (mn 4),.int .i64 (mn 5),.int .i64 (mn 6),.int .i64 (mn 7)] rfl hR3 sizeS rfl (by simp[Value.oneCell']) ?_))
  refine Yc (zF rfl underlying108 rfl _ _ (w.heap.size+1+1) #[.slice lp ln lc,.int .u64 st,.int .u64 b0,.int .u64 b1,.int .u64 b2,.int .u64 j0,.int .u64 j1,.int .u64 j2,.int .i64 (mn 0),.int .i64 (mn 1),.int .i64 (mn 2),.int .i64 (mn 3),.int .i64 (mn 4),.int .i64 (mn 5),.int .i64 (mn 6),.int .i64 (mn 7)] (0,0) (.bool false) (setRow_heap _ _ _ _ _ _ hR3) sizeS rfl rfl) rfl ?_;rw[← HPO.out];exact⟨⟨lp,ln,lc,st,(b0,b1,b2),(j0,j1,j2),mn⟩,false,rfl,⟨λ h=>(by cases h),λ h=>(HN.out h).elim⟩,λ _=>rfl,λ h=>(by cases h),zg hB3 (by omega) _⟩
 have v1:(((st &&& pst:Nat):Int) != 0)=false:=by simpa using h1
 have HS1:=yK h1;clear h1;by_cases h2:(mn k:Int)<c
 case neg =>
  have v2:decide (c≤(mn k:Int))=true:=by simp;omega
  have HN:Hid ¬ canPut ⟨lp,ln,lc,st,(b0,b1,b2),(j0,j1,j2),mn⟩ ⟨⟨k,m,tt,x,y⟩,pst,(q0,q1,q2)⟩ c bel:=yK λ h=>h2 (by simpa using h.2.1);clear h2;refine qh 35 (by kernel_rfl) (by kernel_rfl) ?_;simp only[yh,yj,yi,yl]
  repeat (go_big_quiet_step (fail))
  refine wpQuiet_nil ?_;intro dq;have hA3:=dq.block hA;have hR3:=dq.block hR;have hB3:=hB.trans (dq.2.mono hB.size);revert hA3 hR3 hB3;generalize dq.1=W3;intro hA3 hR3 hB3;clear hJ hA hP hR hB hsW hbd a1 p0 p5 ak cc b2c be8 be9 be10 J0 J1 J2;go_wp2_with (first
   | (refine Yb rfl 108 _ rfl w.heap.size rfl 108 _ (0,0) _ hA3 underlying108 rfl sizeS ?_)
   | (refine wpList_store_row rfl 108 _ _ rfl (w.heap.size+1+1) rfl 108 _ #[.slice lp ln lc,.int .u64 st,.int .u64 b0,.int .u64 b1,.int .u64 b2,.int .u64 j0,.int .u64 j1,.int .u64 j2,.int .i64 (mn 0),.int .i64 (mn 1),.int .i64 (mn 2),.int .i64 (mn 3),.int .i64 (mn 4),.int .i64 (mn 5),.int .i64 (mn 6),.int .i64 (mn 7)] rfl hR3 sizeS rfl (by simp[Value.oneCell']) ?_))
  refine Yc (zF rfl underlying108 rfl _ _ (w.heap.size+1+1) #[.slice lp ln lc,.int .u64 st,.int .u64 b0,.int .u64 b1,.int .u64 b2,.int .u64 j0,.int .u64 j1,.int .u64 j2,.int .i64 (mn 0),.int .i64 (mn 1),.int .i64 (mn 2),.int .i64 (mn 3),.int .i64 (mn 4),.int .i64 (mn 5),.int .i64 (mn 6),.int .i64 (mn 7)] (0,0) (.bool false) (setRow_heap _ _ _ _ _ _ hR3) sizeS rfl rfl) rfl ?_;rw[← HPO.out];exact⟨⟨lp,ln,lc,st,(b0,b1,b2),(j0,j1,j2),mn⟩,false,rfl,⟨λ h=>(by cases h),λ h=>(HN.out h).elim⟩,λ _=>rfl,λ h=>(by cases h),zg hB3 (by omega) _⟩
 have v2:decide (c≤(mn k:Int))=false:=by simp;omega
 have HS2:=yK h2;clear h2;obtain⟨z0,z1,z2,hz⟩:∃ z0 z1 z2,andW (andW (b0,b1,b2) (q0,q1,q2)) bel=(z0,z1,z2):=⟨_,_,_,rfl⟩;have hcall:∀ d:SubW W,Calls Tryz.prog 75 #[.agg #[.int .u64 (b0 &&& q0:Nat),.int .u64 (b1 &&& q1:Nat),.int .u64 (b2 &&& q2:Nat)],.agg #[.int .u64 bel.1,.int .u64 bel.2.1,.int .u64 bel.2.2]] d.1
   λ e w'=>e=.returned (.agg #[.int .u64 z0,.int .u64 z1,.int .u64 z2])∧∃ d':SubW W,w'=d'.1:=λ d=>by
  have:=qem (andW (b0,b1,b2) (q0,q1,q2)) bel (zde HP2.out) HBEL.out d;rw[hz]at this;exact this
 have HZ:=yK hz;clear hz;have HCALL:=yK hcall;clear hcall;have heq:∀ d:SubW W,(Op.equalIn 10000 105 (.agg #[.int .u64 z0,.int .u64 z1,.int .u64 z2]) (.agg #[.int .u64 0,.int .u64 0,.int .u64 0])).run Tryz.prog d.1=.ok (decide (((z0,z1,z2):W3)=(0,0,0))) d.1:=λ d=>qco (z0,z1,z2) (0,0,0) d.1;by_cases h3:((z0,z1,z2):W3)=(0,0,0)
 case neg =>
  have heq2:∀ d:SubW W,(Op.equalIn 10000 105 (.agg #[.int .u64 z0,.int .u64 z1,.int .u64 z2]) (.agg #[.int .u64 0,.int .u64 0,.int .u64 0])).run Tryz.prog d.1=.ok false d.1:=λ d=>by rw[heq d,yv h3]
  clear heq;have HN:Hid ¬ canPut ⟨lp,ln,lc,st,(b0,b1,b2),(j0,j1,j2),mn⟩ ⟨⟨k,m,tt,x,y⟩,pst,(q0,q1,q2)⟩ c bel:=yK λ h=>h3 (HZ.out▸h.2.2);clear h3;refine qh 35 (by kernel_rfl) (by kernel_rfl) ?_;simp only[yh,yj,yi,yl]
  repeat (go_big_quiet_step ((exact HCALL.out _)))
  refine wpQuiet_nil ?_;intro dq;have hA3:=dq.block hA;have hR3:=dq.block hR;have hB3:=hB.trans (dq.2.mono hB.size);revert hA3 hR3 hB3;generalize dq.1=W3;intro hA3 hR3 hB3;clear hJ hA hP hR hB hsW hbd a1 p0 p5 ak cc b2c be8 be9 be10 J0 J1 J2;go_wp2_with (first
   | (refine Yb rfl 108 _ rfl w.heap.size rfl 108 _ (0,0) _ hA3 underlying108 rfl sizeS ?_)
   | (refine wpList_store_row rfl 108 _ _ rfl (w.heap.size+1+1) rfl 108 _ #[.slice lp ln lc,.int .u64 st,.int .u64 b0,.int .u64 b1,.int .u64 b2,.int .u64 j0,.int .u64 j1,.int .u64 j2,.int .i64 (mn 0),.int .i64 (mn 1),.int .i64 (mn 2),.int .i64 (mn 3),.int .i64 (mn 4),.int .i64 (mn 5),.int .i64 (mn 6),.int .i64 (mn 7)] rfl hR3 sizeS rfl (by simp[Value.oneCell']) ?_))
  refine Yc (zF rfl underlying108 rfl _ _ (w.heap.size+1+1) #[.slice lp ln lc,.int .u64 st,.int .u64 b0,.int .u64 b1,.int .u64 b2,.int .u64 j0,.int .u64 j1,.int .u64 j2,.int .i64 (mn 0),.int .i64 (mn 1),.int .i64 (mn 2),.int .i64 (mn 3),.int .i64 (mn 4),.int .i64 (mn 5),.int .i64 (mn 6),.int .i64 (mn 7)] (0,0) (.bool false) (setRow_heap _ _ _ _ _ _ hR3) sizeS rfl rfl) rfl ?_;rw[← HPO.out];exact⟨⟨lp,ln,lc,st,(b0,b1,b2),(j0,j1,j2),mn⟩,false,rfl,⟨λ h=>(by cases h),λ h=>(HN.out h).elim⟩,λ _=>rfl,λ h=>(by cases h),zg hB3 (by omega) _⟩
 have heq2:∀ d:SubW W,(Op.equalIn 10000 105 (.agg #[.int .u64 z0,.int .u64 z1,.int .u64 z2]) (.agg #[.int .u64 0,.int .u64 0,.int .u64 0])).run Tryz.prog d.1=.ok true d.1:=λ d=>by rw[heq d,yw h3]
 clear heq;have HS3:=yK h3;clear h3;refine qh 35 (by kernel_rfl) (by kernel_rfl) ?_;simp only[yh,yj,yi,yl]
 repeat (go_big_quiet_step ((exact HCALL.out _)))
 refine wpQuiet_nil ?_;intro dq;have hA3:=dq.block hA;have hP3:=dq.block hP;have hR3:=dq.block hR;have hJ3:=dq.block hJ;have hB3:=hB.trans (dq.2.mono hB.size);have hs3:=dq.2.size;revert hA3 hP3 hR3 hJ3 hB3 hs3;generalize dq.1=W3;intro hA3 hP3 hR3 hJ3 hB3 hs3;clear hJ hA hP hR hB hbd a1 p0 p5 ak cc b2c be8 be9 be10 J0 J1 J2 heq2 HCALL u1 v1 v2;go_wp2_with fail;have hPc:W3.heap[w.heap.size+1]?=some (.cells (hpVals ⟨⟨k,m,tt,x,y⟩,pst,(q0,q1,q2)⟩).toArray 152 (0,0)):=hP3;have hown3:RP.Own W3 base (.slice lp ln lc) ls:=qf HS'.out hB3;have HOWN:=yK hown3;clear hown3;refine wp_region_held 7 84 [] (by kernel_rfl) (by kernel_rfl) rfl (λ W=>Below W3.heap.size W3 W) (zdQ w.heap.size W3 lp ln lc ls ⟨⟨k,m,tt,x,y⟩,pst,(q0,q1,q2)⟩) (λ W W' h e=>h.trans (e.mono h.size)) qeA (Joins.below_draws _ W3 1) ?_ ?_
 ·simp only[yh,yj,heldFrom,heldAt];refine⟨?_,?_,?_,?_,?_,?_,?_,trivial⟩
  ·intro b W vals K hI;have e:b.eval (.tmp 4)=.pointer (some ⟨w.heap.size,0,none⟩):=(K.was 4 (by kernel_rfl)).trans rfl;refine lu_v (I:=Instr.fieldAt 108 (b.eval (.tmp 4)) 0) rfl ?_ ⟨yf _ _,rfl⟩;rw[e];exact qeO _ _
  ·intro b W vals K hI;obtain⟨e,f⟩:=K.val 0 50 (by kernel_rfl);have f':vals 0=.pointer (some ⟨w.heap.size,0,none⟩):=f;refine lu_v (I:=Instr.loadAt 102 (b.eval (.tmp 50))) rfl ?_ ⟨yf _ _,rfl⟩;rw[e,f'];exact zk isAgg102 (by simp[World.cell?,(hI.block _ (ya.1 hA3).1).trans hA3])
  ·intro b W vals K hI;obtain⟨e,f⟩:=K.val 1 51 (by kernel_rfl);have f':vals 1=.slice lp ln lc:=f;refine zS (args:=#[.slice lp ln lc]) rfl (by simp only[Yu,yM,Yi,e,f']) (enters_of func138 (by kernel_rfl) rfl) ?_;have hcl:ln≤lc∧lc≤maxLen∧(lp=none→lc=0):=by
    rcases HOWN.out.2 with⟨h1,h2⟩|⟨g0,cap,cur,h1,h2,h3,h4,h5,h6⟩
    ·simp only[yC]at h1;obtain⟨rfl,rfl,rfl⟩:=h1;exact⟨ye _,by decide,λ _=>rfl⟩
    simp only[yC]at h1;obtain⟨rfl,rfl,rfl⟩:=h1;exact⟨h4,h5,λ h=>by cases h⟩
   refine (zg2 lp ln lc hcl.1 hcl.2.1 hcl.2.2 W).mono ?_;rintro e w' ⟨rfl,rfl⟩;exact⟨_,rfl,yf _ _,rfl⟩
  ·intro b W vals K hI;have e:b.eval (.tmp 5)=.pointer (some ⟨w.heap.size+1,0,none⟩):=(K.was 5 (by kernel_rfl)).trans rfl;refine lu_v (I:=Instr.loadAt 152 (b.eval (.tmp 5))) rfl ?_ ⟨yf _ _,rfl⟩;rw[e];have:=run_loadVar_row (P:=Tryz.prog) W (w.heap.size+1) 152 152 _ (0,0) _ ((hI.block _ (ya.1 hPc).1).trans hPc) underlying152 rfl sizeP;simp only[Instr.loadAt,Instr.sureAddr,yG,yH,yz,this,REnc.val];rfl
  ·intro b W vals K hI;obtain⟨e,f⟩:=K.val 3 53 (by kernel_rfl);have f':vals 3=RP.val ⟨⟨k,m,tt,x,y⟩,pst,(q0,q1,q2)⟩:=f;obtain⟨iI,hiI,hzI,hsI,hbI⟩:=info_parts infoPc;refine qaa rfl (e.trans f') underlying102 hiI hzI (by rw[hsI];decide) (by rw[hsI];decide) (cells:=(hpVals ⟨⟨k,m,tt,x,y⟩,pst,(q0,q1,q2)⟩).toArray) (by rw[hsI];exact qbN _) ?_;exact⟨(yf _ W).alloc (ye _) _,W.heap.size,rfl,yd W _⟩
  ·intro b W vals K hI;obtain⟨e1,f1⟩:=K.val 2 52 (by kernel_rfl);obtain⟨e2,f2⟩:=K.val 4 54 (by kernel_rfl);have g1:vals 2=.slice lp ln ln:=f1;obtain⟨g,g2,hg⟩:∃ g,vals 4=.slice (some ⟨g,0,none⟩) 1 1∧W.heap[g]?=some (.cells (hpVals ⟨⟨k,m,tt,x,y⟩,pst,(q0,q1,q2)⟩).toArray 152 (0,0)):=f2;obtain⟨v,W',hr,ho,hbW⟩:=zd8 (qf HOWN.out hI) hg (by omega);refine zZ rfl (e1.trans g1) (e2.trans g2) hr ⟨hbW,?_⟩;exact qN ho hI.size
  intro b W vals K hI;have e:b.eval (.tmp 4)=.pointer (some ⟨w.heap.size,0,none⟩):=(K.was 4 (by kernel_rfl)).trans rfl;refine lu_v (I:=Instr.fieldAt 108 (b.eval (.tmp 4)) 0) rfl ?_ ⟨yf _ _,rfl⟩;rw[e];exact qeO _ _
 ·intro W vals hI hf;have g0:vals 0=.pointer (some ⟨w.heap.size,0,none⟩):=hf 0 (by decide);have g1:vals 1=.slice lp ln lc:=hf 1 (by decide);have g2:vals 2=.slice lp ln ln:=hf 2 (by decide);have g3:vals 3=RP.val ⟨⟨k,m,tt,x,y⟩,pst,(q0,q1,q2)⟩:=hf 3 (by decide);obtain⟨g,g4,_⟩:∃ g,vals 4=.slice (some ⟨g,0,none⟩) 1 1∧W.heap[g]?=some (.cells (hpVals ⟨⟨k,m,tt,x,y⟩,pst,(q0,q1,q2)⟩).toArray 152 (0,0)):=hf 4 (by decide);have g5:RP.Own W W3.heap.size (vals 5) (ls++[⟨⟨k,m,tt,x,y⟩,pst,(q0,q1,q2)⟩]):=hf 5 (by decide);have g6:vals 6=.pointer (some ⟨w.heap.size,0,none⟩):=hf 6 (by decide);obtain⟨np,nc,hn⟩:=g5.has.slice;rw[hn]at g5;rw[qfS]at g3;have hA4:=(hI.block _ (ya.1 hA3).1).trans hA3;have hP4:=(hI.block _ (ya.1 hP3).1).trans hP3;have hR4:=(hI.block _ (ya.1 hR3).1).trans hR3;have hJ4:=(hI.block _ (ya.1 hJ3).1).trans hJ3;have hB4:=hB3.trans (hI.mono hB3.size);simp only[yh,yj,Yl,YE,Yk,Yg,yM,Yi,putAll,Act.put,yr,yF,yE,g0,g1,g2,g3,g4,hn,g6];show wpActs _ _ _ _ 0 [7] _ _;refine zH (i:=7) (T:=102) (x:=.tmp 56) (y:=.tmp 55) (q:=⟨w.heap.size,0,none⟩) (v:=.slice np (ls++[⟨⟨k,m,tt,x,y⟩,pst,(q0,q1,q2)⟩]:List HP).length nc) (w':=W.setCell ⟨w.heap.size,0,none⟩ (.slice np (ls++[⟨⟨k,m,tt,x,y⟩,pst,(q0,q1,q2)⟩]:List HP).length nc)) rfl rfl rfl ?_ ?_ ?_ trivial ?_
  ·rfl
  ·rfl
  ·exact zaz isAgg102 hA4 rfl sizeOf102 rfl
  refine qat ?_;have hA5:(W.setCell ⟨w.heap.size,0,none⟩ (.slice np (ls++[⟨⟨k,m,tt,x,y⟩,pst,(q0,q1,q2)⟩]:List HP).length nc)).heap[w.heap.size]?=some (.cells #[.slice np (ls++[⟨⟨k,m,tt,x,y⟩,pst,(q0,q1,q2)⟩]:List HP).length nc,.int .u64 st,.int .u64 b0,.int .u64 b1,.int .u64 b2,.int .u64 j0,.int .u64 j1,.int .u64 j2,.int .i64 (mn 0),.int .i64 (mn 1),.int .i64 (mn 2),.int .i64 (mn 3),.int .i64 (mn 4),.int .i64 (mn 5),.int .i64 (mn 6),.int .i64 (mn 7)] 108 (0,0)):=yI _ _ _ _ _ _ hA4;have hP5:=(yq W ⟨w.heap.size,0,none⟩ (w.heap.size+1) (.slice np (ls++[⟨⟨k,m,tt,x,y⟩,pst,(q0,q1,q2)⟩]:List HP).length nc) (by simp)).trans hP4;have hR5:=(yq W ⟨w.heap.size,0,none⟩ (w.heap.size+1+1) (.slice np (ls++[⟨⟨k,m,tt,x,y⟩,pst,(q0,q1,q2)⟩]:List HP).length nc) (by simp;omega)).trans hR4;have hJ5:=(yq W ⟨w.heap.size,0,none⟩ J (.slice np (ls++[⟨⟨k,m,tt,x,y⟩,pst,(q0,q1,q2)⟩]:List HP).length nc) (by simp;omega)).trans hJ4;have hB5:Below w.heap.size w (W.setCell ⟨w.heap.size,0,none⟩ (.slice np (ls++[⟨⟨k,m,tt,x,y⟩,pst,(q0,q1,q2)⟩]:List HP).length nc)):=hB4.setCell (ye _) _;have hO5:=zo g5 (a:=⟨w.heap.size,0,none⟩) (by simp;omega) (.slice np (ls++[⟨⟨k,m,tt,x,y⟩,pst,(q0,q1,q2)⟩]:List HP).length nc);clear hA4 hP4 hR4 hJ4 hB4 hA3 hP3 hR3 hJ3 hB3 hPc hf hI g0 g1 g2 g3 g4 g5 g6 hn;revert hA5 hP5 hR5 hJ5 hB5 hO5;generalize W.setCell ⟨w.heap.size,0,none⟩ (.slice np (ls++[⟨⟨k,m,tt,x,y⟩,pst,(q0,q1,q2)⟩]:List HP).length nc)=W5;intro hA5 hP5 hR5 hJ5 hB5 hO5;have HO5:=yK hO5;clear hO5;revert HO5 hA5;generalize hn5:(ls++[⟨⟨k,m,tt,x,y⟩,pst,(q0,q1,q2)⟩]:List HP).length=n5;have HN5:=yK hn5;clear hn5;intro hA5 HO5;have a1:W5.cell? ⟨w.heap.size,1,none⟩=some (.int .u64 st):=by simp[World.cell?,hA5]
  have af:W5.frozen? ⟨w.heap.size,1,none⟩=false:=frozen_of_row W5 _ 1 _ _ hA5;have p5:W5.cell? ⟨w.heap.size+1,5,none⟩=some (.int .u64 pst):=by simp[World.cell?,hP5]
  have o1:=or64 hs1 hp1;go_wp2_with fail;have hA6:(W5.setCell ⟨w.heap.size,1,none⟩ (.int .u64 (st ||| pst:Nat))).heap[w.heap.size]?=some (.cells #[.slice np n5 nc,.int .u64 (st ||| pst:Nat),.int .u64 b0,.int .u64 b1,.int .u64 b2,.int .u64 j0,.int .u64 j1,.int .u64 j2,.int .i64 (mn 0),.int .i64 (mn 1),.int .i64 (mn 2),.int .i64 (mn 3),.int .i64 (mn 4),.int .i64 (mn 5),.int .i64 (mn 6),.int .i64 (mn 7)] 108 (0,0)):=yI _ _ _ _ _ _ hA5;have hP6:=(yq W5 ⟨w.heap.size,1,none⟩ (w.heap.size+1) (.int .u64 (st ||| pst:Nat)) (by simp)).trans hP5;have hR6:=(yq W5 ⟨w.heap.size,1,none⟩ (w.heap.size+1+1) (.int .u64 (st ||| pst:Nat)) (by simp;omega)).trans hR5;have hJ6:=(yq W5 ⟨w.heap.size,1,none⟩ J (.int .u64 (st ||| pst:Nat)) (by simp;omega)).trans hJ5;have hB6:Below w.heap.size w (W5.setCell ⟨w.heap.size,1,none⟩ (.int .u64 (st ||| pst:Nat))):=hB5.setCell (ye _) _;have hO6:=zo HO5.out (a:=⟨w.heap.size,1,none⟩) (by simp;omega) (.int .u64 (st ||| pst:Nat));have HO6:=yK hO6;clear hO6;clear hA5 hP5 hR5 hJ5 hB5 HO5 a1 af p5 o1;revert hA6 hP6 hR6 hJ6 hB6 HO6;generalize W5.setCell ⟨w.heap.size,1,none⟩ (.int .u64 (st ||| pst:Nat))=W6;intro hA6 hP6 hR6 hJ6 hB6 HO6;have a2:∀ d:SubW W6,d.1.cell? ⟨w.heap.size,2,none⟩=some (.int .u64 b0):=λ d=>by simp[World.cell?,d.block hA6]
  have a3:∀ d:SubW W6,d.1.cell? ⟨w.heap.size,3,none⟩=some (.int .u64 b1):=λ d=>by simp[World.cell?,d.block hA6]
  have a4:∀ d:SubW W6,d.1.cell? ⟨w.heap.size,4,none⟩=some (.int .u64 b2):=λ d=>by simp[World.cell?,d.block hA6]
  have a5:∀ d:SubW W6,d.1.cell? ⟨w.heap.size,5,none⟩=some (.int .u64 j0):=λ d=>by simp[World.cell?,d.block hA6]
  have a6:∀ d:SubW W6,d.1.cell? ⟨w.heap.size,6,none⟩=some (.int .u64 j1):=λ d=>by simp[World.cell?,d.block hA6]
  have a7:∀ d:SubW W6,d.1.cell? ⟨w.heap.size,7,none⟩=some (.int .u64 j2):=λ d=>by simp[World.cell?,d.block hA6]
  have p6:∀ d:SubW W6,d.1.cell? ⟨w.heap.size+1,6,none⟩=some (.int .u64 q0):=λ d=>by simp[World.cell?,d.block hP6]
  have p7:∀ d:SubW W6,d.1.cell? ⟨w.heap.size+1,7,none⟩=some (.int .u64 q1):=λ d=>by simp[World.cell?,d.block hP6]
  have p8:∀ d:SubW W6,d.1.cell? ⟨w.heap.size+1,8,none⟩=some (.int .u64 q2):=λ d=>by simp[World.cell?,d.block hP6]
  have J0:∀ d:SubW W6,d.1.cell? ⟨J,0,none⟩=some (.int .u64 (b0 &&& q0:Nat)):=λ d=>by simp[World.cell?,d.block hJ6]
  have J1:∀ d:SubW W6,d.1.cell? ⟨J,1,none⟩=some (.int .u64 (b1 &&& q1:Nat)):=λ d=>by simp[World.cell?,d.block hJ6]
  have J2:∀ d:SubW W6,d.1.cell? ⟨J,2,none⟩=some (.int .u64 (b2 &&& q2:Nat)):=λ d=>by simp[World.cell?,d.block hJ6]
  have HOR1:Hid (∀ d:SubW W6,Calls Tryz.prog 110 #[.agg #[.int .u64 b0,.int .u64 b1,.int .u64 b2],.agg #[.int .u64 q0,.int .u64 q1,.int .u64 q2]] d.1
   λ e w'=>e=.returned (.agg #[.int .u64 (b0 ||| q0:Nat),.int .u64 (b1 ||| q1:Nat),.int .u64 (b2 ||| q2:Nat)])∧∃ d':SubW W6,w'=d'.1):=yK λ d=>or_q (b0,b1,b2) (q0,q1,q2) H2.out HP2.out d
  have HOR2:Hid (∀ d:SubW W6,Calls Tryz.prog 110 #[.agg #[.int .u64 j0,.int .u64 j1,.int .u64 j2],.agg #[.int .u64 (b0 &&& q0:Nat),.int .u64 (b1 &&& q1:Nat),.int .u64 (b2 &&& q2:Nat)]] d.1
   λ e w'=>e=.returned (.agg #[.int .u64 (j0 ||| (b0 &&& q0):Nat),.int .u64 (j1 ||| (b1 &&& q1):Nat),.int .u64 (j2 ||| (b2 &&& q2):Nat)])∧∃ d':SubW W6,w'=d'.1):=yK λ d=>or_q (j0,j1,j2) (andW (b0,b1,b2) (q0,q1,q2)) H3.out (zde HP2.out) d
  refine qh 10 (by kernel_rfl) (by kernel_rfl) ?_;simp only[yh,yj,yi,yl]
  repeat (go_big_quiet_step (fail))
  go_big_quiet_step (exact HOR1.out _)
  repeat (go_big_quiet_step (fail))
  go_big_quiet_step (exact HOR2.out _)
  repeat (go_big_quiet_step (fail))
  refine wpQuiet_nil ?_;intro dq6;have hA7:=dq6.block hA6;have hP7:=dq6.block hP6;have hR7:=dq6.block hR6;have hB7:=hB6.trans (dq6.2.mono hB6.size);have hO7:=qf HO6.out dq6.2;have HO7:=yK hO7;clear hO7;revert hA7 hP7 hR7 hB7 HO7;generalize dq6.1=W7;intro hA7 hP7 hR7 hB7 HO7;clear hJ6 hA6 hP6 hR6 hB6 HO6 a2 a3 a4 a5 a6 a7 p6 p7 p8 J0 J1 J2;have af:∀ j,W7.frozen? ⟨w.heap.size,j,none⟩=false:=λ j=>frozen_of_row W7 _ j _ _ hA7;have a2:W7.cell? ⟨w.heap.size,2,none⟩=some (.int .u64 b0):=by simp[World.cell?,hA7]
  have a3:W7.cell? ⟨w.heap.size,3,none⟩=some (.int .u64 b1):=by simp[World.cell?,hA7]
  have a4:W7.cell? ⟨w.heap.size,4,none⟩=some (.int .u64 b2):=by simp[World.cell?,hA7]
  have a5:W7.cell? ⟨w.heap.size,5,none⟩=some (.int .u64 j0):=by simp[World.cell?,hA7]
  have a6:W7.cell? ⟨w.heap.size,6,none⟩=some (.int .u64 j1):=by simp[World.cell?,hA7]
  have a7:W7.cell? ⟨w.heap.size,7,none⟩=some (.int .u64 j2):=by simp[World.cell?,hA7]
  go_upto_region 7 with fail;have hA8:((((((W7.setCell ⟨w.heap.size,2,none⟩ (.int .u64 (b0 ||| q0:Nat))).setCell ⟨w.heap.size,3,none⟩ (.int .u64 (b1 ||| q1:Nat))).setCell ⟨w.heap.size,4,none⟩ (.int .u64 (b2 ||| q2:Nat))).setCell ⟨w.heap.size,5,none⟩ (.int .u64 (j0 ||| (b0 &&& q0):Nat))).setCell ⟨w.heap.size,6,none⟩ (.int .u64 (j1 ||| (b1 &&& q1):Nat))).setCell ⟨w.heap.size,7,none⟩ (.int .u64 (j2 ||| (b2 &&& q2):Nat))).heap[w.heap.size]?=some (.cells #[.slice np n5 nc,.int .u64 (st ||| pst:Nat),.int .u64 (b0 ||| q0:Nat),.int .u64 (b1 ||| q1:Nat),.int .u64 (b2 ||| q2:Nat),.int .u64 (j0 ||| (b0 &&& q0):Nat),.int .u64 (j1 ||| (b1 &&& q1):Nat),.int .u64 (j2 ||| (b2 &&& q2):Nat),.int .i64 (mn 0),.int .i64 (mn 1),.int .i64 (mn 2),.int .i64 (mn 3),.int .i64 (mn 4),.int .i64 (mn 5),.int .i64 (mn 6),.int .i64 (mn 7)] 108 (0,0)):=zgE hA7 (.int .u64 (b0 ||| q0:Nat)) (.int .u64 (b1 ||| q1:Nat)) (.int .u64 (b2 ||| q2:Nat)) (.int .u64 (j0 ||| (b0 &&& q0):Nat)) (.int .u64 (j1 ||| (b1 &&& q1):Nat)) (.int .u64 (j2 ||| (b2 &&& q2):Nat));have hP8:=(six_other W7 (A:=w.heap.size) (k:=w.heap.size+1) (by omega) (.int .u64 (b0 ||| q0:Nat)) (.int .u64 (b1 ||| q1:Nat)) (.int .u64 (b2 ||| q2:Nat)) (.int .u64 (j0 ||| (b0 &&& q0):Nat)) (.int .u64 (j1 ||| (b1 &&& q1):Nat)) (.int .u64 (j2 ||| (b2 &&& q2):Nat))).trans hP7;have hR8:=(six_other W7 (A:=w.heap.size) (k:=w.heap.size+1+1) (by omega) (.int .u64 (b0 ||| q0:Nat)) (.int .u64 (b1 ||| q1:Nat)) (.int .u64 (b2 ||| q2:Nat)) (.int .u64 (j0 ||| (b0 &&& q0):Nat)) (.int .u64 (j1 ||| (b1 &&& q1):Nat)) (.int .u64 (j2 ||| (b2 &&& q2):Nat))).trans hR7;have hB8:=qf2 hB7 (ye _) (.int .u64 (b0 ||| q0:Nat)) (.int .u64 (b1 ||| q1:Nat)) (.int .u64 (b2 ||| q2:Nat)) (.int .u64 (j0 ||| (b0 &&& q0):Nat)) (.int .u64 (j1 ||| (b1 &&& q1):Nat)) (.int .u64 (j2 ||| (b2 &&& q2):Nat));have hO8:=zgW HO7.out (A:=w.heap.size) (by omega) (.int .u64 (b0 ||| q0:Nat)) (.int .u64 (b1 ||| q1:Nat)) (.int .u64 (b2 ||| q2:Nat)) (.int .u64 (j0 ||| (b0 &&& q0):Nat)) (.int .u64 (j1 ||| (b1 &&& q1):Nat)) (.int .u64 (j2 ||| (b2 &&& q2):Nat));have HO8:=yK hO8;clear hO8;clear hA7 hP7 hR7 hB7 HO7 a2 a3 a4 a5 a6 a7 af;revert hA8 hP8 hR8 hB8 HO8;generalize ((((((W7.setCell ⟨w.heap.size,2,none⟩ (.int .u64 (b0 ||| q0:Nat))).setCell ⟨w.heap.size,3,none⟩ (.int .u64 (b1 ||| q1:Nat))).setCell ⟨w.heap.size,4,none⟩ (.int .u64 (b2 ||| q2:Nat))).setCell ⟨w.heap.size,5,none⟩ (.int .u64 (j0 ||| (b0 &&& q0):Nat))).setCell ⟨w.heap.size,6,none⟩ (.int .u64 (j1 ||| (b1 &&& q1):Nat))).setCell ⟨w.heap.size,7,none⟩ (.int .u64 (j2 ||| (b2 &&& q2):Nat)))=W8;intro hA8 hP8 hR8 hB8 HO8;have af:∀ j,W8.frozen? ⟨w.heap.size,j,none⟩=false:=λ j=>frozen_of_row W8 _ j _ _ hA8;have ak:W8.cell? ⟨w.heap.size,8+k,none⟩=some (.int .i64 (mn k)):=by
   rcases (by omega:k=0∨k=1∨k=2∨k=3∨k=4∨k=5∨k=6∨k=7)with rfl|rfl|rfl|rfl|rfl|rfl|rfl|rfl <;> simp[World.cell?,hA8]
  have p0:W8.cell? ⟨w.heap.size+1,0,none⟩=some (.int .i64 k):=by simp[World.cell?,hP8]
  have hmk:=H4.out k;go_upto_region 8 with fail;have hA9:∃ cs9:List Value,cs9=hsVals ⟨np,n5,nc,st ||| pst,(b0 ||| q0,b1 ||| q1,b2 ||| q2),(j0 ||| (b0 &&& q0),j1 ||| (b1 &&& q1),j2 ||| (b2 &&& q2)),λ j=>if j=k then mn k+1 else mn j⟩∧(W8.setCell ⟨w.heap.size,8+k,none⟩ (.int .i64 ((mn k:Int)+1))).heap[w.heap.size]?=some (.cells cs9.toArray 108 (0,0)):=by
   refine⟨_,rfl,?_⟩;rw[yI _ _ _ _ _ _ hA8];rcases (by omega:k=0∨k=1∨k=2∨k=3∨k=4∨k=5∨k=6∨k=7)with rfl|rfl|rfl|rfl|rfl|rfl|rfl|rfl <;> simp[hsVals]
  obtain⟨cs9,hcs,hA9⟩:=hA9;have hz:cs9.length=16:=by rw[hcs];rfl
  have hone:cs9.toArray.all (·.oneCell')=true:=by rw[hcs];simp[hsVals,Value.oneCell']
  have hR9:=(yq W8 ⟨w.heap.size,8+k,none⟩ (w.heap.size+1+1) (.int .i64 ((mn k:Int)+1)) (by simp;omega)).trans hR8;have hB9:=hB8.setCell (p:=⟨w.heap.size,8+k,none⟩) (ye _) (.int .i64 ((mn k:Int)+1));have hO9:=zo HO8.out (a:=⟨w.heap.size,8+k,none⟩) (by simp;omega) (.int .i64 ((mn k:Int)+1));have HO9:=yK hO9;clear hO9;have HCS:=yK hcs;clear hcs;have HZ9:=yK hz;clear hz;clear hA8 hR8 hP8 hB8 HO8 af ak p0 hmk;revert hA9 hR9 hB9 HO9;generalize W8.setCell ⟨w.heap.size,8+k,none⟩ (.int .i64 ((mn k:Int)+1))=W9;intro hA9 hR9 hB9 HO9;have hi9:(Tryz.prog.info? 108).map (·.size)=some cs9.toArray.size:=by rw[List.size_toArray,HZ9.out];exact sizeS
  go_wp2_with (first
   | (refine Yb rfl 108 _ rfl w.heap.size rfl 108 cs9.toArray (0,0) _ hA9 underlying108 rfl hi9 ?_)
   | (refine wpList_store_row rfl 108 _ _ rfl (w.heap.size+1+1) rfl 108 _ cs9.toArray rfl hR9 hi9 (by show 16=cs9.toArray.size;rw[List.size_toArray,HZ9.out]) hone ?_))
  refine Yc (zF rfl underlying108 rfl _ _ (w.heap.size+1+1) cs9.toArray (0,0) (.bool true) (setRow_heap _ _ _ _ _ _ hR9) hi9 rfl rfl) rfl ?_;rw[← HPO.out];have hW:RP.Own W9 W3.heap.size (.slice np n5 nc) (ls++[⟨⟨k,m,tt,x,y⟩,pst,(q0,q1,q2)⟩]):=by
   show W9.ownsRow _ RP.ty RP.n _ (ls++[(⟨⟨k,m,tt,x,y⟩,pst,(q0,q1,q2)⟩:HP)]).length _;rw[HN5.out];exact HO9.out
  refine⟨⟨np,n5,nc,st ||| pst,(b0 ||| q0,b1 ||| q1,b2 ||| q2),(j0 ||| (b0 &&& q0),j1 ||| (b1 &&& q1),j2 ||| (b2 &&& q2)),λ j=>if j=k then mn k+1 else mn j⟩,true,?_,⟨λ _=>⟨HS1.out,by simpa using HS2.out,?_⟩,λ _=>rfl⟩,λ h=>(by cases h),λ _=>⟨rfl,rfl,rfl,rfl,?_⟩,zg hB9 (by omega) _⟩
  ·rw[HCS.out];rfl
  ·show andW (andW (b0,b1,b2) (q0,q1,q2)) bel=(0,0,0);rw[HZ.out];exact HS3.out
  refine qN (zi hW λ kk e=>setRow_other _ _ _ _ ?_) (by omega);have:=(zf hW e).1;omega
theorem infoSt:(Tryz.prog.info? 108).map (λ i=>(i.zero,i.size,i.bytes))=some (some (.agg #[.slice none 0 0,.int .u64 0,.int .u64 0,.int .u64 0,.int .u64 0,.int .u64 0,.int .u64 0,.int .u64 0,.int .i64 0,.int .i64 0,.int .i64 0,.int .i64 0,.int .i64 0,.int .i64 0,.int .i64 0,.int .i64 0]),16,144):=by kernel_rfl
theorem qL {α:Type} {l:List α} {x y:α} {i:Nat} (h:(l++[x])[i]?=some y):l[i]?=some y∨(i=l.length∧y=x):=by
 by_cases hi:i<l.length
 ·rw[yX hi]at h;exact .inl h
 rw[yW (by omega)]at h;obtain⟨h1,h2⟩:=yc.1 h;simp at h1;exact .inr ⟨by omega,by simpa using h2.symm⟩
theorem zfW {g:List Q} {L:List E} (hg64:g.length≤64) {lb base:Nat} {F:Nat→Prop} {Ts:List (List Pc)} {S:HS} {T:List Pc} {W:World} (hj:TJ W g L lb base F Ts) (hst:StT g L T S)
  (hs:RP.Own W base S.laid (T.map (hpT g L))) (hnF:∀ k,S.laid.ownBlock=some k→¬ F k) (hT:TbAt W) (hTg:1<base) (ha:ApartT T) (hin:∀ p∈T,∃ q∈g,q∈p.qs) (hne:T≠[]) (hTl:T.length≤64)
  (hlen:Ts.length≤1000000000) (hbase:base≤W.heap.size) :
  Calls Tryz.prog 90 #[RS.val S,.pointer (some ⟨lb,0,none⟩)] W λ e W'=>(∃ v,e=.returned v)∧∃ F':Nat→Prop,TJ W' g L lb base F' (Ts++[T]) ∧
   (∀ k,F' k→F k∨S.laid.ownBlock=some k∨W.heap.size≤k)∧Fr (λ k=>F k∨S.laid.ownBlock=some k) W W':=by
 obtain⟨v,Ss,h1,h2,h3,h4,h5,h6,h7,h8⟩:=hj;obtain⟨vp,vc,rfl⟩:∃ vp vc,v=.slice vp Ss.length vc:=(REnc.Own.has (R:=RS) h2).slice;have hlb:=h8 lb h5;have hW:=yK (rfl:W.heap.size=W.heap.size);have hq1:RP.Own (W.alloc (.cells (hsVals S).toArray 108)) base S.laid (T.map (hpT g L)):=qf hs ((yf _ W).alloc (ye _) _);have hT1:TbAt (W.alloc (.cells (hsVals S).toArray 108)):=hT.below ((yf _ W).alloc (ye _) _);have hA1:=yd W (.cells (hsVals S).toArray 108);obtain⟨hperm,hsort⟩:=qgY (L:=L) hg64 ha hin;have hC:=qe0 base S.laid (T.map (hpT g L)) ((sortP g T).map (hpT g L)) _ hT1 hTg hq1 (by simpa using hne) (by rw[yB];omega) (λ p hp=>by
  obtain⟨r,_,rfl⟩:=yP.1 hp;exact yO (qbJ _ g) (Nat.pow_le_pow_right (by decide) hg64)) hperm hsort
 have hlaid:∀ k,S.laid.ownBlock=some k→k<W.heap.size:=λ k hk=>(zf hs hk).2.1;have HST:=yK hst;clear hst;have HNF:=yK hnF;clear hnF;have H2:=yK h2;clear h2;have H3:=yK h3;clear h3;have H4:=yK h4;clear h4;have H6:=yK h6;clear h6;have H7:=yK h7;clear h7;have H8:=yK h8;clear h8;have HLAID:=yK hlaid;clear hlaid;clear hs hperm hsort hne hTl ha hin hT hT1 hq1;have c0:(W.alloc (.cells (hsVals S).toArray 108)).cell? ⟨W.heap.size,0,none⟩=some (.slice S.lp S.ln S.lc):=by simp only[World.cell?,hA1];rfl
 show Calls _ _ #[.agg (hsVals S).toArray,_] _ _;have HC:=yK hC;clear hC;go_enter func90,ntmps90;go_wp2_with fail;refine HC.out.mono ?_;rintro e w2 ⟨rfl,ho2,hz2,hos2,htp2,hout2,hk2⟩;clear HC c0;have hal:Below W.heap.size W (W.alloc (.cells (hsVals S).toArray 108)):=(yf _ W).alloc (ye _) _;have hsz:(W.alloc (.cells (hsVals S).toArray 108)).heap.size=W.heap.size+1:=yp _ _;have hbk:∀ k,k<W.heap.size→S.laid.ownBlock≠some k→w2.heap[k]?=W.heap[k]?:=λ k hk hne=>(hk2 k (by omega) hne).trans (hal.block k hk);have hA2:w2.heap[W.heap.size]?=some (.cells (hsVals S).toArray 108 (0,0)):=(hk2 _ (by omega) λ e=>by have:=HLAID.out _ e;omega).trans hA1;have hlb2:w2.heap[lb]?=some (.cells #[.slice vp Ss.length vc] 96 (0,0)):=(hbk lb (ya.1 h1).1 λ e=>HNF.out _ e h5).trans h1;have hown2:RS.Own w2 base (.slice vp Ss.length vc) Ss:=zi H2.out λ k e=>hbk k (zf H2.out e).2.1 λ e'=>HNF.out _ e' (H6.out k e);have hz:W.heap.size+1≤w2.heap.size:=by omega
 have hos:w2.os=W.os:=hos2.trans hal.os;have htp:w2.tape=W.tape:=htp2.trans hal.tape;have hout:w2.output=W.output:=hout2.trans hal.output;clear hA1 hk2 hsz hz2 hos2 htp2 hout2;obtain⟨k0,k1,k2,k3,k4,k5,k6,k7,k8,k9,k10,k11,k12,k13,k14,k15⟩:=qbQ hA2;have a0:w2.cell? ⟨lb,0,none⟩=some (.slice vp Ss.length vc):=by simp[World.cell?,hlb2]
 have HO2:=yK ho2;clear ho2;have HBK:=yK hbk;clear hbk;have HFX:=yK (And.intro hos (And.intro htp (And.intro hout hz)));clear hos htp hout hz;clear hA2 hal;obtain⟨iS,hiS,hzS,hsS,hbS⟩:=info_parts infoSt;have HM1:Hid (Ss.length+1≤maxLen):=yK (by simp only[maxLen];have:=H3.out;omega);have HM2:Hid ((Ss.length+1)*144≤140737488355328):=yK (by have:=H3.out;omega);have hbs2:base≤w2.heap.size:=by have:=HFX.out.2.2.2;omega
 have hown3:=qf hown2 ((yf _ w2).alloc (ye _) (.cells (hsVals S).toArray 108));have hlb3:=heapO (.cells (hsVals S).toArray 108) hlb2;have hcells:=zI (yd w2 (.cells (hsVals S).toArray 108));have hne:∀ k,(Value.slice vp Ss.length vc).ownBlock=some k→k≠lb:=λ k e e'=>by
  obtain⟨_,_,cur,hc⟩:=zf hown2 e;rw[e',hlb2]at hc;simp only[yo,Yh]at hc;exact absurd hc.2.1 (by decide)
 have hgr0:∀ (w1:World),(w2.alloc (.cells (hsVals S).toArray 108)).grownBy w1 (Value.slice vp Ss.length vc).ownBlock→w1.heap[lb]?=some (.cells #[.slice vp Ss.length vc] 96 (0,0)):=λ w1 hg =>
  (hg.block lb (ya.1 hlb3).1 λ e=>hne lb e.symm rfl).trans hlb3
 have HG0:=yK hgr0;clear hgr0;have HNE:=yK hne;clear hne;have HOW3:=yK hown3;clear hown3;have HCE:=yK hcells;clear hcells;have HL2:=yK hlb2;clear hlb2 hown2 hlb3 h1;go_wp2_with (first
  | (at_builtin;refine wpList_append_own_at (P:=Tryz.prog) _ rfl _ _ 96 rfl base 108 iS _ 16 144 underlying96 hiS hzS hsS hbS rfl (by decide) (.slice vp Ss.length vc) Ss.length (RS.cells Ss) rfl HOW3.out ⟨w2.heap.size,0,none⟩ 1 1 (hsVals S) rfl rfl HCE.out (RS.one S) HM1.out HM2.out (by rw[yp];omega) ?_;intro v' w1 hown' hgrow _ hat;obtain⟨p',c',rfl⟩:=qg hown';have hb1:Boxed w1 lb 96 (.slice vp Ss.length vc):=HG0.out _ hgrow;have c1:=hb1.cell;have f1:=hb1.frozen))
 have hgrow':(w2.alloc (.cells (hsVals S).toArray 108)).grownBy w1 (Value.slice vp Ss.length vc).ownBlock:=hgrow;have hat':(Value.slice p' (Ss.length+1) c').ownBlock=(Value.slice vp Ss.length vc).ownBlock∨(Value.slice p' (Ss.length+1) c').ownBlock=some (w2.heap.size+1):=by
  rcases hat with h|h
  ·exact .inl h
  exact .inr (h.trans (by rw[yp]))
 have hown4:RS.Own w1 base (.slice p' (Ss.length+1) c') (Ss++[S]):=RS.own_snoc hown';clear hgrow hat hown' c1 f1;have hlbs:=(ya.1 HL2.out).1;have hz2:=HFX.out.2.2.2;have hsz2:(w2.alloc (.cells (hsVals S).toArray 108)).heap.size=w2.heap.size+1:=yp _ _;have hal2:Below w2.heap.size w2 (w2.alloc (.cells (hsVals S).toArray 108)):=(yf _ w2).alloc (ye _) _;have hkeep:∀ k,k<w2.heap.size→k≠lb→(Value.slice vp Ss.length vc).ownBlock≠some k→(w1.setCell ⟨lb,0,none⟩ (.slice p' (Ss.length+1) c')).heap[k]?=w2.heap[k]?:=λ k hk hne hv =>
  (yq _ _ _ _ hne).trans ((hgrow'.block k (by omega) λ e=>hv e.symm).trans (hal2.block k hk))
 have hvs:∀ k,(Value.slice vp Ss.length vc).ownBlock=some k→∃ cur,(w2.alloc (.cells (hsVals S).toArray 108)).heap[k]?=some (.cells cur 108 (0,0)):=λ k e=>(zf HOW3.out e).2.2;have hmv:∀ (k:Nat) (cs:Array Value),w2.heap[k]?=some (.cells cs 152 (0,0))→(w1.setCell ⟨lb,0,none⟩ (.slice p' (Ss.length+1) c')).heap[k]?=w2.heap[k]?:=λ k cs hc=>by
  have hk:=(ya.1 hc).1;refine hkeep k hk (λ e=>?_) (λ e=>?_)
  ·subst e;rw[HL2.out]at hc;simp only[yo,Yh]at hc;exact absurd hc.2.1 (by decide)
  obtain⟨cur,hcur⟩:=hvs k e;rw[hal2.block k hk,hc]at hcur;simp only[yo,Yh]at hcur;exact absurd hcur.2.1 (by decide)
 have hown5:RS.Own (w1.setCell ⟨lb,0,none⟩ (.slice p' (Ss.length+1) c')) base (.slice p' (Ss.length+1) c') (Ss++[S]):=zi hown4 λ k e=>yq _ _ _ _ (by
  rcases hat' with h|h
  ·exact HNE.out k (h▸e)
  rw[h]at e;cases e;exact λ e=>by simp only at e;omega)
 go_end0
 refine⟨⟨_,rfl⟩,λ k=>(F k∧(Value.slice vp Ss.length vc).ownBlock≠some k)∨S.laid.ownBlock=some k∨(Value.slice p' (Ss.length+1) c').ownBlock=some k,
  ⟨.slice p' (Ss.length+1) c',Ss++[S],hb1.set _,hown5,by rw[yL,yL,H3.out];rfl,?_,.inl ⟨h5,λ e=>HNE.out _ e rfl⟩,λ k e=>.inr (.inr e),?_,?_⟩,?_,?_⟩
 ·intro i S' T' hS' hT';rcases qL hS' with hS1|⟨hi,rfl⟩
  ·rcases qL hT' with hT1|⟨hi,rfl⟩
   ·obtain⟨a,b⟩:=H4.out i S' T' hS1 hT1;refine⟨a,zi b λ k e=>?_⟩;obtain⟨_,hk,cur,hc⟩:=zf b e;have hFk:=H7.out S' (yg hS1) k e;have h2:=HBK.out k hk λ e'=>HNF.out _ e' hFk;exact (hmv k cur (h2.trans hc)).trans h2
   have:=(yc.1 hS1).1;have:=H3.out;omega
  rcases qL hT' with hT1|⟨_,rfl⟩
  ·have:=(yc.1 hT1).1;have:=H3.out;omega
  refine⟨HST.out,zi HO2.out λ k e=>?_⟩;obtain⟨_,_,cur,hc⟩:=zf HO2.out e;exact hmv k cur hc
 ·intro S' hS' k e;rcases yY.1 hS' with h|h
  ·refine .inl ⟨H7.out S' h k e,λ e'=>?_⟩;obtain⟨i,hi⟩:=yV h;obtain⟨T',hT'⟩:∃ T',Ts[i]?=some T':=⟨_,yb (by rw[← H3.out];exact (yc.1 hi).1)⟩;obtain⟨_,_,cur,hc⟩:=zf (H4.out i S' T' hi hT').2 e;obtain⟨_,_,cur',hc'⟩:=zf H2.out e';rw[hc]at hc';simp only[yo,Yh]at hc';exact absurd hc'.2.1 (by decide)
  rw[yU]at h;subst h;exact .inr (.inl e)
 ·rintro k (⟨hF,hv⟩|e|e)
  ·obtain⟨hb,cs,T',hc⟩:=H8.out k hF;by_cases hkl:k=lb
   ·subst hkl;exact⟨hb,_,_,hb1.set _⟩
   have hk:=(ya.1 hc).1;have h2:=HBK.out k hk λ e'=>HNF.out _ e' hF;exact⟨hb,cs,T',(hkeep k (by omega) hkl hv).trans (h2.trans hc)⟩
  ·obtain⟨hb,_,cur,hc⟩:=zf HO2.out e;exact⟨hb,_,_,(hmv k cur hc).trans hc⟩
  obtain⟨hb,_,cur,hc⟩:=zf hown5 e;exact⟨hb,_,_,hc⟩
 ·rintro k (⟨hF,_⟩|e|e)
  ·exact .inl hF
  ·exact .inr (.inl e)
  rcases hat' with h|h
  ·exact .inl (H6.out k (h▸e))
  rw[h]at e;cases e;exact .inr (.inr (by omega))
 ·have hsz4:(w1.setCell ⟨lb,0,none⟩ (.slice p' (Ss.length+1) c')).heap.size=w1.heap.size:=by simp
  refine⟨?_,?_,?_,?_,?_⟩
  ·have:=(Below.setCell (yf lb w1) (ye _) (Value.slice p' (Ss.length+1) c') (p:=⟨lb,0,none⟩)).os;exact this.trans (hgrow'.os.trans (hal2.os.trans HFX.out.1))
  ·have:=(Below.setCell (yf lb w1) (ye _) (Value.slice p' (Ss.length+1) c') (p:=⟨lb,0,none⟩)).tape;exact this.trans (hgrow'.tape.trans (hal2.tape.trans HFX.out.2.1))
  ·have:=(Below.setCell (yf lb w1) (ye _) (Value.slice p' (Ss.length+1) c') (p:=⟨lb,0,none⟩)).output;exact this.trans (hgrow'.output.trans (hal2.output.trans HFX.out.2.2.1))
  ·have:=hgrow'.size;omega
  intro k hk hn;have h2:=HBK.out k hk λ e=>hn (.inr e);exact (hkeep k (by omega) (λ e=>hn (.inl (e▸h5))) λ e=>hn (.inl (H6.out k e))).trans h2
attribute [local go_sem] Oper.semAt_some
def zeroTask:Array Value:=#[.slice none 0 0,.slice none 0 0,.slice none 0 0,.slice none 0 0,.slice none 0 0]
theorem sizeTask:(Tryz.prog.info? 34).map (·.size)=some 5:=by kernel_rfl
section
variable {w W W':World} {tb nb:Nat} {vg vk vc u:Value} {us:List Value} {ls:List (List Q)} {l g:List Q} {cs:List Int} {cn n m:Nat} {v:Nat→Value}
theorem zbN {T0:TypeId} {x:Value} {n0 k:Nat} {xs:List Value} {size base:Nat} (ho:W.ownsRow base T0 size x n0 xs) (hg:W.grownBy W' x.ownBlock) {cs:Array Value} {T:TypeId} (hT:T≠T0) (hc:W.heap[k]?=some (.cells cs T (0,0))):W'.heap[k]?=W.heap[k]? :=
 hg.block k (ya.1 hc).1 λ e=>by
  obtain⟨_,_,cs2,hc2⟩:=zf ho e.symm;rw[hc]at hc2;simp only[yo,Yh]at hc2;exact hT hc2.2.1
end
theorem qap {P:Program} {w:World} {ops:Array Oper} {rest:List Oper} {o:Oper} {a:Act} {Q:Exit→Act→World→Prop} (hgd:o.guard=none) (s x:Operand) (t:TypeId)
  (ho:o.op=.call { callee:=.builtin .append,args:=#[s,x],argTypes:=#[t,t] }) {u y v':Value} {w':World} (hs:a.eval s=u) (hx:a.eval x=y) (hr:(Builtin.append_ #[t,t] o.type #[u,y]).run P w=.ok v' w') (h:wpList P ops Q rest (a.put o.dst v') w') :
  wpList P ops Q (o :: rest) a w:=by
 refine wpList_plain hgd λ K hK=>?_;unfold Oper.wp execOp;simp only[ho,resolve,invoke,builtin,yG,yH,yz,Yu,yM,Yi,hs,hx,hr];exact hK _ _ h
theorem run_append_nil (W:World) (b:Nat):(Builtin.append_ #[22,22] 22 #[.slice (some ⟨b,0,none⟩) 0 0,.slice none 0 0]).run Tryz.prog W=.ok (.slice (some ⟨b,0,none⟩) 0 0) W:=by
 simp[Builtin.append_,go_sem]
end Go.Proofs.YtiinlplgloaanaaGreatDoor
namespace Go.Proofs.YtiinlplgloaanaaGreatDoor
open Go.Proofs.Tryz Go.RowKit Go.ChangeShapes Go.WideShapes Go.Deep Go.Joins
theorem zck {α:Type} [Inhabited α] (R:REnc α) (hn:0<R.n) {T:TypeId} (hT:Tryz.prog.underlying T=some (.slice R.ty)) (hcells:Tryz.prog.cellsOf R.ty=R.n) {H:Type} {enc:TypeId × Value→H} {w:World} {spare:Nat→Bool} {held:Bool} {fuel:Nat} {v:Value} {x:DataW H × List MemPlace} {good:α→Prop}
  (hel:∀ (fuel':Nat) (cs:List Value) (y:DataW H × List MemPlace),cs.length=R.n→DataW.trod enc Tryz.prog w 0 spare held fuel' R.ty cs=some y→∃ r:α,cs=R.vals r∧good r)
  (h:DataW.trod enc Tryz.prog w 0 spare held fuel T [v]=some x):∃ l:List α,R.Has w v l∧∀ r∈l,good r:=by
 rcases open_slice hT h with⟨h0,_⟩|⟨a,len,cap,m,n,D,Pl,h0,_,hl,hm,hmm,_,hx⟩
 ·simp only[List.cons.injEq,and_true]at h0;exact⟨[],.inl ⟨h0,rfl⟩,λ r hr=>by cases hr⟩
 ·simp only[List.cons.injEq,and_true]at h0;subst h0;have hlm:len≤m:=by rw[hmm];split <;> omega
  have each:∀ i,i<m→∃ q:α,good q∧∀ (j:Nat) (u:Value),(R.vals q)[j]?=some u→w.cell? (a.add (i*R.n+j))=some u:=by
   intro i hi;obtain⟨cs',h1,h2⟩:=hx i hi;rw[hcells]at h1;obtain⟨_,hlen,hcell⟩:=World.cells?_some h1;obtain⟨r,rfl,hg⟩:=hel _ _ _ hlen h2;refine⟨r,hg,λ j u hu=>?_⟩;have hj:j<R.n:=(by rw[← R.len r];exact (yc.1 hu).1);have c0:=hcell j hj;rw[add_add]at c0;rw[c0,← hu]
  obtain⟨q,hq⟩:=choose_lt each;refine⟨(List.range len).map q,.inr ⟨a,cap,by simp,by simpa using hl,hm,⟨λ hne=>?_,λ i r hr j u hu=>?_⟩⟩,λ r hr=>?_⟩
  ·have h0:0<len:=by
    rcases Nat.eq_zero_or_pos len with h|h
    ·subst h;exact absurd rfl hne
    exact h
   have hlv:0<(R.vals (q 0)).length:=(by rw[R.len];exact hn);have c0:=(hq 0 (by omega)).2 0 _ (yb hlv);unfold World.cell? at c0;rcases Nat.lt_or_ge (a.add (0*R.n+0)).block w.heap.size with h|h
   ·rwa [block_add]at h
   rw[Array.getElem?_eq_none h]at c0;cases c0
  ·have hi:i<len:=by have:=(yc.1 hr).1;simpa using this
   rw[yQ,List.getElem?_range hi]at hr;simp only[Option.map_some,yo]at hr;subst hr;exact (hq i (by omega)).2 j u hu
  obtain⟨i,hi,rfl⟩:=yP.1 hr;have:=List.mem_range.1 hi;exact (hq i (by omega)).1
instance :Inhabited Ld:=⟨⟨0,false,0,0,0⟩⟩
instance :Inhabited E:=⟨⟨0,0,0⟩⟩
theorem cellsLd:Tryz.prog.cellsOf 50=5:=by kernel_rfl
theorem cellsEd:Tryz.prog.cellsOf 61=3:=by kernel_rfl
theorem cellsIn:Tryz.prog.cellsOf 3=1:=by kernel_rfl
theorem cellsBo:Tryz.prog.cellsOf 4=1:=by kernel_rfl
theorem cellsTa:Tryz.prog.cellsOf 34=5:=by kernel_rfl
theorem structLd:∃ f0 f1:Field,Tryz.prog.underlying 50=some (.struct #[f0,f1])∧f0.type=3∧f1.type=45∧f0.offset=0∧f1.offset=1:=⟨_,_,underlying50,rfl,rfl,rfl,rfl⟩
theorem structPl:∃ f0 f1 f2 f3:Field,Tryz.prog.underlying 45=some (.struct #[f0,f1,f2,f3])∧f0.type=4∧f1.type=3∧f2.type=3∧f3.type=3∧f0.offset=0∧f1.offset=1∧f2.offset=2∧f3.offset=3:=⟨_,_,_,_,underlying45,rfl,rfl,rfl,rfl,rfl,rfl,rfl,rfl⟩
theorem structEd:∃ f0 f1 f2:Field,Tryz.prog.underlying 61=some (.struct #[f0,f1,f2])∧f0.type=3∧f1.type=3∧f2.type=3∧f0.offset=0∧f1.offset=1∧f2.offset=2:=⟨_,_,_,underlying61,rfl,rfl,rfl,rfl,rfl,rfl⟩
theorem structTa:∃ f0 f1 f2 f3 f4:Field,Tryz.prog.underlying 34=some (.struct #[f0,f1,f2,f3,f4])∧f0.type=22∧f1.type=29∧f2.type=30∧f3.type=31∧f4.type=32∧f0.offset=0∧f1.offset=1∧f2.offset=2∧f3.offset=3∧f4.offset=4 :=
 ⟨_,_,_,_,_,underlying34,rfl,rfl,rfl,rfl,rfl,rfl,rfl,rfl,rfl,rfl⟩
theorem zcT {H:Type} {enc:TypeId × Value→H} {w:World} {spare:Nat→Bool} {held:Bool} {fuel:Nat} {v:Value} {x:DataW H × List MemPlace} (h:DataW.trod enc Tryz.prog w 0 spare held fuel 30 [v]=some x):∃ l:List Int,RI.Has w v l:=by
 obtain⟨l,h1,_⟩:=zck (good:=λ _=>True) RI (by decide) underlying30 cellsIn (λ fuel' cs y hl hy=>by
  match cs,hl with
  | [y0],_ =>
   obtain⟨n0,e0,_,w0⟩:=DataW.trod_int underlying3 hy;simp only[List.cons.injEq,and_true]at e0;exact⟨n0,by rw[e0];rfl,trivial⟩) h
 exact⟨l,h1⟩
theorem qeD {H:Type} {enc:TypeId × Value→H} {w:World} {spare:Nat→Bool} {held:Bool} {fuel:Nat} {v:Value} {x:DataW H × List MemPlace} (h:DataW.trod enc Tryz.prog w 0 spare held fuel 32 [v]=some x):∃ l:List E,RE.Has w v l:=by
 obtain⟨f0,f1,f2,hs,t0,t1,t2,o0,o1,o2⟩:=structEd;obtain⟨l,h1,_⟩:=zck (good:=λ _=>True) RE (by decide) underlying32 cellsEd (λ fuel' cs y hl hy=>by
  obtain⟨xs,k,hk,hxy,_,hxl,hfd⟩:=DataW.trod_struct hs hy
  match cs,hl,xs,hxl with
  | [v0,v1,v2],_,[y0,y1,y2],_ =>
   have g0:=hfd 0 f0 rfl;have g1:=hfd 1 f1 rfl;have g2:=hfd 2 f2 rfl;simp[o0,o1,o2,t0,t1,t2,cellsIn]at g0 g1 g2;obtain⟨n0,e0,_⟩:=DataW.trod_int underlying3 g0;obtain⟨n1,e1,_⟩:=DataW.trod_int underlying3 g1;obtain⟨n2,e2,_⟩:=DataW.trod_int underlying3 g2;simp only[List.cons.injEq,and_true]at e0 e1 e2;exact⟨⟨n0,n1,n2⟩,by rw[e0,e1,e2];rfl,trivial⟩) h
 exact⟨l,h1⟩
theorem zfm {H:Type} {enc:TypeId × Value→H} {w:World} {spare:Nat→Bool} {held:Bool} {fuel:Nat} {v:Value} {x:DataW H × List MemPlace} (h:DataW.trod enc Tryz.prog w 0 spare held fuel 31 [v]=some x):∃ l:List Ld,RL.Has w v l:=by
 obtain⟨f0,f1,hs,t0,t1,o0,o1⟩:=structLd;obtain⟨p0,p1,p2,p3,hp,s0,s1,s2,s3,q0,q1,q2,q3⟩:=structPl;obtain⟨l,h1,_⟩:=zck (good:=λ _=>True) RL (by decide) underlying31 cellsLd (λ fuel' cs y hl hy=>by
  obtain⟨xs,k,hk,hxy,_,hxl,hfd⟩:=DataW.trod_struct hs hy
  match cs,hl,xs,hxl with
  | [v0,v1,v2,v3,v4],_,[y0,y1],_ =>
   have g0:=hfd 0 f0 rfl;have g1:=hfd 1 f1 rfl;simp[o0,o1,t0,t1,cellsIn,cellsPl]at g0 g1;obtain⟨n0,e0,_⟩:=DataW.trod_int underlying3 g0;obtain⟨zs,k2,hk2,hxy2,_,hzl,hfd2⟩:=DataW.trod_struct hp g1
   match zs,hzl with
   | [z0,z1,z2,z3],_ =>
    have r0:=hfd2 0 p0 rfl;have r1:=hfd2 1 p1 rfl;have r2:=hfd2 2 p2 rfl;have r3:=hfd2 3 p3 rfl;simp[q0,q1,q2,q3,s0,s1,s2,s3,cellsIn,cellsBo]at r0 r1 r2 r3;obtain⟨b0,c0,_⟩:=DataW.trod_bool underlying4 r0;obtain⟨n1,c1,_⟩:=DataW.trod_int underlying3 r1;obtain⟨n2,c2,_⟩:=DataW.trod_int underlying3 r2;obtain⟨n3,c3,_⟩:=DataW.trod_int underlying3 r3;simp only[List.cons.injEq,and_true]at e0 c0 c1 c2 c3;exact⟨⟨n0,b0,n1,n2,n3⟩,by rw[e0,c0,c1,c2,c3];rfl,trivial⟩) h
 exact⟨l,h1⟩
theorem zgJ {H:Type} {enc:TypeId × Value→H} {W:World} {base:Nat} {v:Value} {d:DataW H} {p:List MemPlace} (hval:Value.okWide Tryz.prog W .any base 34 v) (h:DataW.Trod enc Tryz.prog W 0 (λ _=>true) true 34 v d p) :
  ∃ (t:Tk) (vg vk vc vf vb:Value),v=.agg #[vg,vk,vc,vf,vb]∧HasQ W vg t.ground∧HasQQ W vk t.kinds∧RI.Has W vc t.counts∧RL.Has W vf t.fixed∧RE.Has W vb t.below:=by
 obtain⟨f0,f1,f2,f3,f4,hs,t0,t1,t2,t3,t4,o0,o1,o2,o3,o4⟩:=structTa;have hv:=hval;simp only[Value.okWide,hs]at hv;obtain⟨cs,rfl,hsz,ts,hts,_,hcell⟩:=hv;rw[cellsTa]at hsz;obtain⟨fuel,hf⟩:=h;obtain⟨xs,k,hk,hxy,_,hxl,hfd⟩:=DataW.trod_struct hs hf
 match cs,hsz,xs,hxl with
 | ⟨[v0,v1,v2,v3,v4]⟩,_,[y0,y1,y2,y3,y4],_ =>
  have g0:=hfd 0 f0 rfl;have g1:=hfd 1 f1 rfl;have g2:=hfd 2 f2 rfl;have g3:=hfd 3 f3 rfl;have g4:=hfd 4 f4 rfl;have cQ:Tryz.prog.cellsOf 22=1:=by kernel_rfl
  have cK:Tryz.prog.cellsOf 29=1:=by kernel_rfl
  have cI:Tryz.prog.cellsOf 30=1:=by kernel_rfl
  have cL:Tryz.prog.cellsOf 31=1:=by kernel_rfl
  have cE:Tryz.prog.cellsOf 32=1:=by kernel_rfl
  simp[o0,o1,o2,o3,o4,t0,t1,t2,t3,t4,cQ,cK,cI,cL,cE,Value.cells]at g0 g1 g2 g3 g4;have hts2:ts=[22,29,30,31,32]:=Option.some.inj (hts.symm.trans (by kernel_rfl));obtain⟨u,hu,hc1⟩:=hcell 1 v1 rfl;rw[hts2]at hu;simp at hu;subst hu;obtain⟨g,hg⟩:=zbY g0;obtain⟨ks,hks⟩:=zep (λ a len cap e=>by
   subst e;exact zg6 underlying29 (by simp only[Value.okWide,underlying29];exact hc1)) g1
  obtain⟨c,hcc⟩:=zcT g2;obtain⟨f,hff⟩:=zfm g3;obtain⟨b,hbb⟩:=qeD g4;exact⟨⟨g,ks,c,f,b⟩,v0,v1,v2,v3,v4,rfl,hg,hks,hcc,hff,hbb⟩
def qa7:List (String × DataW Unit):=[("math/bits.deBruijn32tab",Rows.laid_math_bits_deBruijn32tab),("math/bits.deBruijn64tab",Rows.laid_math_bits_deBruijn64tab),("internal/strconv.uint64pow10",Rows.laid_internal_strconv_uint64pow10)]
theorem qcl:(qa7.all λ x=>x.2.handleName?.isNone)=true:=by kernel_rfl
theorem zfj (os:Os) (args:Array Value):laidMetH Tryz.prog qa7 ((laidWorld6 os).forCall (λ _ _=>0) ⟨#[],args,[]⟩).memory:=by
 rw[MakeChecks.laidMetH_plain _ _ _ qcl];exact laidMet_of_run' 8 (by kernel_rfl) (by kernel_rfl)
theorem zfu {W:World} (h:laidMetH Tryz.prog qa7 W):TbAt W:=by
 rw[MakeChecks.laidMetH_plain _ _ _ qcl]at h;exact ze3 (l:=qa7) (by unfold qa7;exact .tail _ (.head _)) h
end Go.Proofs.YtiinlplgloaanaaGreatDoor
