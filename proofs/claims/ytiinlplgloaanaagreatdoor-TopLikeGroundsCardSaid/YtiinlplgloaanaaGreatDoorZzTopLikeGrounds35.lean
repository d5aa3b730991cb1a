/- Plain maths of chapter 7: the edges of a ground, as the board numbers them; valid tasks. -/
import Derived.Test.YtiinlplgloaanaaGreatDoorZzTopLikeGrounds34
import Derived.Test.YtiinlplgloaanaaGreatDoorZzTopLikeGrounds33
import Derived.Maps.AppendAt
import Derived.Lib.SmallJoins
/- Chapter 7 in the heap: put. -/
namespace Go.Proofs.YtiinlplgloaanaaGreatDoor
set_option linter.all false
open Go.RowKit
set_option maxRecDepth 100000 in
theorem clip_any (p:Option Addr) (n c:Nat) (hn:n≤c) (hc:c≤maxLen) (hp:p=none→c=0) (w:World) :
  Calls Tryz.prog 138 #[.slice p n c] w λ e w'=>e=.returned (.slice p n n)∧w'=w:=by
 have hc':c≤9223372036854775807:=by simpa [maxLen] using hc
 go_enter Tryz.func138,Tryz.ntmps138
 cases p with
 | none =>
  obtain rfl:=hp rfl
  obtain rfl:n=0:=by omega
  go_wp2_with fail
  go_ret
  exact ⟨rfl,rfl⟩
 | some a =>
  go_wp2_with fail
  go_ret
  exact ⟨rfl,rfl⟩
theorem both_q {w:World} (x y:W3) (hx:okW x) (hy:okW y) (d:SubW w):Calls Tryz.prog 75 #[w3V x,w3V y] d.1 λ e w'=>e=.returned (w3V (andW x y))∧∃ d':SubW w,w'=d'.1:=by
 refine (both_any x y hx hy d.1).mono ?_
 rintro e w' ⟨rfl,hg⟩
 exact ⟨rfl,⟨⟨w',d.2.trans (hg.below.mono d.2.size)⟩,rfl⟩⟩
theorem or_q {w:World} (x y:W3) (hx:okW x) (hy:okW y) (d:SubW w):Calls Tryz.prog 110 #[w3V x,w3V y] d.1 λ e w'=>e=.returned (w3V (orW x y))∧∃ d':SubW w,w'=d'.1:=by
 refine (or_any3 x y hx hy d.1).mono ?_
 rintro e w' ⟨rfl,hg⟩
 exact ⟨rfl,⟨⟨w',d.2.trans (hg.below.mono d.2.size)⟩,rfl⟩⟩
def putPost (w:World) (s:HS) (ls:List HP) (p:HP) (k:Nat) (c:Int) (bel:W3) (e:Ending) (w':World):Prop :=
 ∃ (s':HS) (ok:Bool),e=.returned (.tuple #[RS.val s',.bool ok])∧(ok=true↔canPut s p c bel)∧(ok=false→s'=s) ∧
   (ok=true→s'.set=s.set ||| p.set∧s'.bord=orW s.bord p.bord∧s'.joint=orW s.joint (andW s.bord p.bord)∧s'.many=(λ j=>if j=k then s.many k+1 else s.many j)∧RP.Own w' w.heap.size s'.laid (ls++[p])) ∧
   Below w.heap.size w w'
theorem rs_val (lp:Option Addr) (ln lc st b0 b1 b2 j0 j1 j2:Nat) (mn:Nat→Nat):RS.val ⟨lp,ln,lc,st,(b0,b1,b2),(j0,j1,j2),mn⟩=.agg #[.slice lp ln lc,.int .u64 st,.int .u64 b0,.int .u64 b1,.int .u64 b2,.int .u64 j0,.int .u64 j1,.int .u64 j2,
  .int .i64 (mn 0),.int .i64 (mn 1),.int .i64 (mn 2),.int .i64 (mn 3),.int .i64 (mn 4),.int .i64 (mn 5),.int .i64 (mn 6),.int .i64 (mn 7)]:=rfl
theorem rp_val (k:Int) (m:Bool) (t x y:Int) (st b0 b1 b2:Nat):RP.val ⟨⟨k,m,t,x,y⟩,st,(b0,b1,b2)⟩=.agg #[.int .i64 k,.bool m,.int .i64 t,.int .i64 x,.int .i64 y,.int .u64 st,.int .u64 b0,.int .u64 b1,.int .u64 b2]:=rfl
theorem infoPc:(Tryz.prog.info? 152).map (λ i=>(i.zero,i.size,i.bytes))=some (some (.agg #[.int .i64 0,.bool false,.int .i64 0,.int .i64 0,.int .i64 0,.int .u64 0,.int .u64 0,.int .u64 0,.int .u64 0]),9,72):=by kernel_rfl
theorem fill_piece (p:HP):Instr.fill (λ i=>some (i*9,9)) ((Array.range (1*9)).map ((.agg #[.int .i64 0,.bool false,.int .i64 0,.int .i64 0,.int .i64 0,.int .u64 0,.int .u64 0,.int .u64 0,.int .u64 0]:Value).cells[· % (.agg #[.int .i64 0,.bool false,.int .i64 0,.int .i64 0,.int .i64 0,.int .u64 0,.int .u64 0,.int .u64 0,.int .u64 0]:Value).cells.size]!)) [(0,RP.val p)]=some (hpVals p).toArray :=
 Great.fill_whole (s:=9) (by decide) [RP.val p] _ (λ v hv=>by simp only [List.mem_singleton] at hv; subst hv; rfl) (by simp)
theorem owns_weak {W:World} {b b':Nat} {e:TypeId} {size:Nat} {v:Value} {n:Nat} {xs:List Value} (h:W.ownsRow b e size v n xs) (hb:b'≤b):W.ownsRow b' e size v n xs :=
 ⟨h.1,h.2.elim .inl λ ⟨g,cap,cur,h1,h2,h3⟩=>.inr ⟨g,cap,cur,h1,Nat.le_trans hb h2,h3⟩⟩
theorem block_cells {W:World} {g:Nat} {cs:List Value} {T:TypeId} {fr:Nat × Nat} (h:W.heap[g]?=some (.cells cs.toArray T fr)):∀ j u,cs[j]?=some u→W.cell? ((⟨g,0,none⟩:Addr).add j)=some u:=by
 intro j u hu
 rw [add_at]
 simp [World.cell?,h,hu]
set_option maxRecDepth 100000 in
theorem append_piece {W:World} {base:Nat} {lp:Option Addr} {ln lc:Nat} {ls:List HP} (own:RP.Own W base (.slice lp ln lc) ls) {g:Nat} {p:HP} (hg:W.heap[g]?=some (.cells (hpVals p).toArray 152 (0,0))) (hlen:ls.length≤1000) :
  ∃ v W',(Builtin.append_ #[102,102] 102 #[.slice lp ln ln,.slice (some ⟨g,0,none⟩) 1 1]).run Tryz.prog W=.ok v W'∧RP.Own W' W.heap.size v (ls++[p])∧Below W.heap.size W W':=by
 obtain ⟨iQ,hiQ,hzQ,hsQ,hbQ⟩:=info_parts infoPc
 have hone:∀ u∈hpVals p,u.oneCell'=true:=RP.one p
 rcases own.2 with ⟨h1,h2⟩ | ⟨g0,cap,cur,h1,h2,h3,h4,h5,h6,h7⟩
 ·simp only [Value.slice.injEq] at h1
  obtain ⟨rfl,rfl,rfl⟩:=h1
  obtain rfl:=List.length_eq_zero_iff.1 h2
  obtain ⟨v,W',hr,ho,hgr,_⟩:=run_append_own (P:=Tryz.prog) (w:=W) W.heap.size 102 102 152 iQ _ 9 72 Tryz.underlying102 hiQ hzQ hsQ hbQ rfl (by decide) (.slice none 0 0) 0 [] (World.ownsRow_nil _ _ _ _) ⟨g,0,none⟩ 1 1 (hpVals p) rfl (block_cells hg) hone (by simp only [maxLen]; omega) (by omega) (Nat.le_refl _)
  exact ⟨v,W',hr,RP.own_snoc (l:=[]) ho,(Below.refl _ W).grown hgr (Nat.le_refl _) (λ k hk=>by cases hk)⟩
 ·simp only [Value.slice.injEq] at h1
  obtain ⟨rfl,rfl,rfl⟩:=h1
  have hc:=World.ownsRow.cells own (g:=g0) rfl
  obtain ⟨v,W',hr,ho,hgr⟩:=run_append_arg_grows (P:=Tryz.prog) (w:=W) 102 102 152 iQ _ 9 72 Tryz.underlying102 hiQ hzQ hsQ hbQ rfl (by decide) ⟨g0,0,none⟩ ls.length ls.length (RP.cells ls) (RP.cells_length ls) hc ⟨g,0,none⟩ 1 1 (hpVals p) rfl (block_cells hg) (by omega) (by simp only [maxLen]; omega) (by omega)
  exact ⟨v,W',hr,RP.own_snoc ho,(Below.refl _ W).grown hgr (Nat.le_refl _) (λ k hk=>by cases hk)⟩
theorem three_grew {w W1:World} {o1 o2 o3:Obj} (hg:Grew (((w.alloc o1).alloc o2).alloc o3) W1) :
  W1.heap[w.heap.size]?=some o1∧W1.heap[w.heap.size+1]?=some o2∧W1.heap[w.heap.size+1+1]?=some o3∧Below w.heap.size w W1∧w.heap.size+3≤W1.heap.size:=by
 have hb:=hg.below
 have hs:(((w.alloc o1).alloc o2).alloc o3).heap.size=w.heap.size+3:=by simp
 have h1:(((w.alloc o1).alloc o2).alloc o3).heap[w.heap.size]?=some o1:=(Below.heap_alloc _ _ _ (by simp; omega)).trans ((Below.heap_alloc _ _ _ (by simp)).trans (World.alloc_heap_new w _))
 have h2:(((w.alloc o1).alloc o2).alloc o3).heap[w.heap.size+1]?=some o2:=(Below.heap_alloc _ _ _ (by simp)).trans (second_new w _ _)
 have h3:=third_new w o1 o2 o3
 have h4:Below w.heap.size w (((w.alloc o1).alloc o2).alloc o3):=(((Below.refl _ w).alloc (Nat.le_refl _) _).alloc (by simp) _).alloc (by simp; omega) _
 have hz:=hb.size
 exact ⟨(hb.block _ (by omega)).trans h1,(hb.block _ (by omega)).trans h2,(hb.block _ (by omega)).trans h3,h4.trans (hb.mono (by omega)),by omega⟩
theorem part103 (xs:Array Value) (i:Nat) (v:Value) (h:xs[i]?=some v) (W:World):(part 103 xs i).run Tryz.prog W=.ok v W:=by
 simp [part,go_sem,h]
theorem eqW_run (x y:W3) (W:World):(Op.equalIn 10000 105 (.agg #[.int .u64 x.1,.int .u64 x.2.1,.int .u64 x.2.2]) (.agg #[.int .u64 y.1,.int .u64 y.2.1,.int .u64 y.2.2])).run Tryz.prog W=.ok (decide (x=y)) W:=by
 obtain ⟨x0,x1,x2⟩:=x
 obtain ⟨y0,y1,y2⟩:=y
 have e:decide (((x0,x1,x2):W3)=(y0,y1,y2))=(((x0:Int)==(y0:Int))&&(((x1:Int)==(y1:Int))&&((x2:Int)==(y2:Int)))):=by
  rw [Bool.eq_iff_iff,decide_eq_true_eq,Bool.and_eq_true,Bool.and_eq_true,beq_iff_eq,beq_iff_eq,beq_iff_eq,Prod.mk.injEq,Prod.mk.injEq]
  omega
 obtain ⟨iu,hiu⟩:∃ i,Tryz.prog.info? 103=some i:=Option.isSome_iff_exists.1 (by kernel_rfl)
 rw [e,run_equalIn_array W 9999 _ _ Tryz.underlying105 hiu]
 simp only
 have hc:Tryz.prog.cellsOf 103=1:=by kernel_rfl
 rw [hc,show List.range 3=[0,1,2] from rfl]
 generalize (x0:Int)=a0
 generalize (x1:Int)=a1
 generalize (x2:Int)=a2
 generalize (y0:Int)=c0
 generalize (y1:Int)=c1
 generalize (y2:Int)=c2
 have hx0:=part103 #[.int .u64 a0,.int .u64 a1,.int .u64 a2] (0*1) (.int .u64 a0) rfl
 have hx1:=part103 #[.int .u64 a0,.int .u64 a1,.int .u64 a2] (1*1) (.int .u64 a1) rfl
 have hx2:=part103 #[.int .u64 a0,.int .u64 a1,.int .u64 a2] (2*1) (.int .u64 a2) rfl
 have hy0:=part103 #[.int .u64 c0,.int .u64 c1,.int .u64 c2] (0*1) (.int .u64 c0) rfl
 have hy1:=part103 #[.int .u64 c0,.int .u64 c1,.int .u64 c2] (1*1) (.int .u64 c1) rfl
 have hy2:=part103 #[.int .u64 c0,.int .u64 c1,.int .u64 c2] (2*1) (.int .u64 c2) rfl
 have heq:∀ a c:Int,(Op.equalIn 9999 103 (.int .u64 a) (.int .u64 c)).run Tryz.prog W=.ok (a==c) W:=λ a c=>run_equalIn_int (P:=Tryz.prog) W 9998 103 .u64 .u64 a c Tryz.underlying103
 simp only [Op.eqItems,Sem.run_bind,hx0,hy0,heq,Result.andThen_ok]
 cases a0==c0 <;> cases h1:a1==c1 <;> cases h2:a2==c2 <;> simp only [Bool.not_true,Bool.not_false,if_true,Bool.false_eq_true,if_false,Sem.run_pure,Result.andThen_ok,Sem.run_bind,hx1,hx2,hy1,hy2,heq,Bool.and_true,Bool.and_false,Bool.true_and,Bool.false_and,h1,h2]
theorem run_storeAt_one {P:Program} {T:TypeId} (hT:∀ w,(isAgg T).run P w=.ok false w) {W:World} {g i:Nat} {cs:Array Value} {t:TypeId} (hg:W.heap[g]?=some (.cells cs t (0,0))) {u:Value} (hi:cs[i]?=some u) (hz:∀ w,(sizeOf T).run P w=.ok 1 w) {v:Value} (hv:v.oneCell'=true) :
  (Instr.storeAt T (.pointer (some ⟨g,i,none⟩)) v).run P W=.ok () (W.setCell ⟨g,i,none⟩ v):=by
 have hf:=frozen_of_row W g i cs t hg
 have hc:W.cell? ⟨g,i,none⟩=some u:=by simp [World.cell?,hg,hi]
 simp only [Instr.storeAt,Instr.sureAddr,Sem.run_bind,Sem.run_pure,Result.andThen_ok]
 have hv':v.cells=#[v]:=by cases v <;> first | rfl | (simp [Value.oneCell'] at hv)
 simp only [storeVar,Sem.run_bind,hz,Result.andThen_ok,hv',List.size_toArray,List.length_cons,List.length_nil,Nat.zero_add,if_true]
 have ha:(⟨g,i,none⟩:Addr).add 0=⟨g,i,none⟩:=rfl
 simp only [storeCells,store,ha]
 cases v <;> first | (simp [Value.oneCell'] at hv; done) | simp [Sem.run,hc,hf,Sem.run_bind,Result.andThen]
theorem fieldS0 (n:Nat) (W:World):(Instr.fieldAt 108 (.pointer (some ⟨n,0,none⟩)) 0).run Tryz.prog W=.ok (.pointer (some ⟨n,0,none⟩)) W:=by kernel_rfl
theorem owns_setCell {W:World} {base:Nat} {e:TypeId} {size:Nat} {v:Value} {n:Nat} {xs:List Value} (h:W.ownsRow base e size v n xs) {a:Addr} (ha:a.block<base) (u:Value):(W.setCell a u).ownsRow base e size v n xs :=
 ⟨h.1,h.2.elim .inl λ ⟨g,cap,cur,h1,h2,h3,h4⟩=>.inr ⟨g,cap,cur,h1,h2,(heap_setCell_other _ _ _ _ (by omega)).trans h3,h4⟩⟩
theorem six_same {W:World} {A:Nat} {cs:Array Value} {T:TypeId} (h:W.heap[A]?=some (.cells cs T (0,0))) (v2 v3 v4 v5 v6 v7:Value) :
  ((((((W.setCell ⟨A,2,none⟩ v2).setCell ⟨A,3,none⟩ v3).setCell ⟨A,4,none⟩ v4).setCell ⟨A,5,none⟩ v5).setCell ⟨A,6,none⟩ v6).setCell ⟨A,7,none⟩ v7).heap[A]?=some (.cells ((((((cs.setIfInBounds 2 v2).setIfInBounds 3 v3).setIfInBounds 4 v4).setIfInBounds 5 v5).setIfInBounds 6 v6).setIfInBounds 7 v7) T (0,0)) :=
 heap_setCell_same _ _ _ _ _ _ (heap_setCell_same _ _ _ _ _ _ (heap_setCell_same _ _ _ _ _ _ (heap_setCell_same _ _ _ _ _ _ (heap_setCell_same _ _ _ _ _ _ (heap_setCell_same _ _ _ _ _ _ h)))))
theorem six_other (W:World) {A k:Nat} (h:k≠A) (v2 v3 v4 v5 v6 v7:Value):((((((W.setCell ⟨A,2,none⟩ v2).setCell ⟨A,3,none⟩ v3).setCell ⟨A,4,none⟩ v4).setCell ⟨A,5,none⟩ v5).setCell ⟨A,6,none⟩ v6).setCell ⟨A,7,none⟩ v7).heap[k]?=W.heap[k]? :=
 (heap_setCell_other _ _ _ _ h).trans ((heap_setCell_other _ _ _ _ h).trans ((heap_setCell_other _ _ _ _ h).trans ((heap_setCell_other _ _ _ _ h).trans ((heap_setCell_other _ _ _ _ h).trans (heap_setCell_other _ _ _ _ h)))))
theorem six_below {w W:World} {B A:Nat} (h:Below B w W) (hA:B≤A) (v2 v3 v4 v5 v6 v7:Value):Below B w ((((((W.setCell ⟨A,2,none⟩ v2).setCell ⟨A,3,none⟩ v3).setCell ⟨A,4,none⟩ v4).setCell ⟨A,5,none⟩ v5).setCell ⟨A,6,none⟩ v6).setCell ⟨A,7,none⟩ v7) :=
 (((((h.setCell (p:=⟨A,2,none⟩) hA v2).setCell (p:=⟨A,3,none⟩) hA v3).setCell (p:=⟨A,4,none⟩) hA v4).setCell (p:=⟨A,5,none⟩) hA v5).setCell (p:=⟨A,6,none⟩) hA v6).setCell (p:=⟨A,7,none⟩) hA v7
theorem six_owns {W:World} {base:Nat} {e:TypeId} {size:Nat} {v:Value} {n:Nat} {xs:List Value} (h:W.ownsRow base e size v n xs) {A:Nat} (hA:A<base) (v2 v3 v4 v5 v6 v7:Value):((((((W.setCell ⟨A,2,none⟩ v2).setCell ⟨A,3,none⟩ v3).setCell ⟨A,4,none⟩ v4).setCell ⟨A,5,none⟩ v5).setCell ⟨A,6,none⟩ v6).setCell ⟨A,7,none⟩ v7).ownsRow base e size v n xs :=
 owns_setCell (owns_setCell (owns_setCell (owns_setCell (owns_setCell (owns_setCell h (a:=⟨A,2,none⟩) hA v2) (a:=⟨A,3,none⟩) hA v3) (a:=⟨A,4,none⟩) hA v4) (a:=⟨A,5,none⟩) hA v5) (a:=⟨A,6,none⟩) hA v6) (a:=⟨A,7,none⟩) hA v7
def putF4 (A:Nat) (W3:World) (lp:Option Addr) (ln lc:Nat) (ls:List HP) (p:HP):Nat→Value→World→Prop
 | 0,u,_=>u=.pointer (some ⟨A,0,none⟩)
 | 1,u,_=>u=.slice lp ln lc
 | 2,u,_=>u=.slice lp ln ln
 | 3,u,_=>u=RP.val p
 | 4,u,W=>∃ g,u=.slice (some ⟨g,0,none⟩) 1 1∧W.heap[g]?=some (.cells (hpVals p).toArray 152 (0,0))
 | 5,u,W=>RP.Own W W3.heap.size u (ls++[p])
 | _,u,_=>u=.pointer (some ⟨A,0,none⟩)
theorem putF4_below {A:Nat} {W3:World} {lp:Option Addr} {ln lc:Nat} {ls:List HP} {p:HP} (i:Nat) (u:Value) (W W':World) (h:putF4 A W3 lp ln lc ls p i u W) (e:Below W.heap.size W W'):putF4 A W3 lp ln lc ls p i u W':=by
 unfold putF4 at *
 split at h <;> first | exact h | skip
 ·obtain ⟨g,h1,h2⟩:=h
  exact ⟨g,h1,(e.block _ (Array.getElem?_eq_some_iff.1 h2).1).trans h2⟩
 ·exact owns_below h e
set_option maxRecDepth 100000 in
set_option maxHeartbeats 4000000 in
theorem put_any7 (w:World) (bb:Nat) (bv:BV) (t:Tk) (L:List E) (ps:List (List HP)) (bel:W3) (hb:BdAt w bb bv t L ps bel) (hbel:okW bel)
  (s:HS) (ls:List HP) (base:Nat) (hs:RP.Own w base s.laid ls) (hs1:s.set<2 ^ 64) (hs2:okW s.bord) (hs3:okW s.joint) (hs4:∀ k,s.many k≤64) (hls:ls.length≤64)
  (p:HP) (hp1:p.set<2 ^ 64) (hp2:okW p.bord) (k:Nat) (hk:p.ld.kind=k) (c:Int) (hc:t.counts[k]?=some c) (hc0:0≤c∧c≤16) (hk8:k<8) :
  Calls Tryz.prog 112 #[.pointer (some ⟨bb,0,none⟩),RS.val s,RP.val p] w (putPost w s ls p k c bel):=by
 obtain ⟨lp,ln,lc,st,⟨b0,b1,b2⟩,⟨j0,j1,j2⟩,mn⟩:=s
 obtain ⟨⟨kk,m,tt,x,y⟩,pst,⟨q0,q1,q2⟩⟩:=p
 simp only at hk hs1 hp1
 subst hk
 have HB:=Lib.hid hb; clear hb
 have HBEL:=Lib.hid hbel; clear hbel
 have HS':=Lib.hid hs; clear hs
 have H2:=Lib.hid hs2; clear hs2
 have H3:=Lib.hid hs3; clear hs3
 have H4:=Lib.hid hs4; clear hs4
 have HP2:=Lib.hid hp2; clear hp2
 have HC:=Lib.hid hc; clear hc
 rw [rs_val,rp_val]
 generalize hPo:putPost w _ ls _ k c bel=Po
 have HPO:=Lib.hid hPo; clear hPo
 go_enter Tryz.func112,Tryz.ntmps112
 go_wp2_with fail
 refine (both_any (b0,b1,b2) (q0,q1,q2) H2.out HP2.out _).mono ?_
 rintro e w1 ⟨rfl,hg⟩
 obtain ⟨hA,hP,hR,hB,hsz⟩:=three_grew hg
 clear hg
 unfold w3V andW
 simp only
 go_wp2_with fail
 have hJ:=World.alloc_heap_new w1 (.cells #[.int .u64 (b0 &&& q0:Nat),.int .u64 (b1 &&& q1:Nat),.int .u64 (b2 &&& q2:Nat)] 105)
 have hA':=heapO (.cells #[.int .u64 (b0 &&& q0:Nat),.int .u64 (b1 &&& q1:Nat),.int .u64 (b2 &&& q2:Nat)] 105) hA
 have hP':=heapO (.cells #[.int .u64 (b0 &&& q0:Nat),.int .u64 (b1 &&& q1:Nat),.int .u64 (b2 &&& q2:Nat)] 105) hP
 have hR':=heapO (.cells #[.int .u64 (b0 &&& q0:Nat),.int .u64 (b1 &&& q1:Nat),.int .u64 (b2 &&& q2:Nat)] 105) hR
 have hB':=hB.alloc hB.size (.cells #[.int .u64 (b0 &&& q0:Nat),.int .u64 (b1 &&& q1:Nat),.int .u64 (b2 &&& q2:Nat)] 105)
 have hsW:(w1.alloc (.cells #[.int .u64 (b0 &&& q0:Nat),.int .u64 (b1 &&& q1:Nat),.int .u64 (b2 &&& q2:Nat)] 105)).heap.size=w1.heap.size+1:=World.size_alloc _ _
 clear hA hP hR hB
 revert hJ hA' hP' hR' hB' hsW
 generalize w1.alloc (.cells #[.int .u64 (b0 &&& q0:Nat),.int .u64 (b1 &&& q1:Nat),.int .u64 (b2 &&& q2:Nat)] 105)=W
 revert hsz
 generalize w1.heap.size=J
 intro hsz hJ hA hP hR hB hsW
 have hbd:=HB.out.keep hB
 have hlt:k<t.counts.length:=(List.getElem?_eq_some_iff.1 HC.out).1
 obtain ⟨ca,cc0,hca,hcc⟩:∃ (ca:Addr) (cc0:Nat),bv.c=.slice (some ca) t.counts.length cc0∧∀ d:SubW W,d.1.cell? (ca.add k)=some (.int .i64 c):=by
  rcases hbd.counts with ⟨_,h0⟩ | ⟨ca,cc0,h1,h2,h3,h4⟩
  ·rw [h0] at hlt; simp at hlt
  ·refine ⟨ca,cc0,h1,λ d=>?_⟩
   have:=(h4.below d.2).at_ k c HC.out 0 (.int .i64 c) rfl
   simpa [RI] using this
 have hblk:=hbd.blk
 rw [hca] at hblk
 have a1:∀ d:SubW W,d.1.cell? ⟨w.heap.size,1,none⟩=some (.int .u64 st):=λ d=>by simp [World.cell?,d.block hA]
 have ak:∀ d:SubW W,d.1.cell? ⟨w.heap.size,8+k,none⟩=some (.int .i64 (mn k)):=λ d=>by
  rcases (by omega:k=0∨k=1∨k=2∨k=3∨k=4∨k=5∨k=6∨k=7) with rfl | rfl | rfl | rfl | rfl | rfl | rfl | rfl <;> simp [World.cell?,d.block hA]
 have p0:∀ d:SubW W,d.1.cell? ⟨w.heap.size+1,0,none⟩=some (.int .i64 k):=λ d=>by simp [World.cell?,d.block hP]
 have p5:∀ d:SubW W,d.1.cell? ⟨w.heap.size+1,5,none⟩=some (.int .u64 pst):=λ d=>by simp [World.cell?,d.block hP]
 have b2c:∀ d:SubW W,d.1.cell? ⟨bb,2,none⟩=some (.slice (some ca) t.counts.length cc0):=λ d=>by simp [World.cell?,d.block hblk]
 have be8:∀ d:SubW W,d.1.cell? ⟨bb,8,none⟩=some (.int .u64 bel.1):=λ d=>by simp [World.cell?,d.block hblk]
 have be9:∀ d:SubW W,d.1.cell? ⟨bb,9,none⟩=some (.int .u64 bel.2.1):=λ d=>by simp [World.cell?,d.block hblk]
 have be10:∀ d:SubW W,d.1.cell? ⟨bb,10,none⟩=some (.int .u64 bel.2.2):=λ d=>by simp [World.cell?,d.block hblk]
 have J0:∀ d:SubW W,d.1.cell? ⟨J,0,none⟩=some (.int .u64 (b0 &&& q0:Nat)):=λ d=>by simp [World.cell?,d.block hJ]
 have J1:∀ d:SubW W,d.1.cell? ⟨J,1,none⟩=some (.int .u64 (b1 &&& q1:Nat)):=λ d=>by simp [World.cell?,d.block hJ]
 have J2:∀ d:SubW W,d.1.cell? ⟨J,2,none⟩=some (.int .u64 (b2 &&& q2:Nat)):=λ d=>by simp [World.cell?,d.block hJ]
 clear hblk
 have cc:=hcc
 clear hcc
 have u1:=and64 hs1 hp1
 by_cases h1:st &&& pst=0
 case neg =>
  have v1:(((st &&& pst:Nat):Int) != 0)=true:=by simpa using h1
  have HN:Hid ¬ canPut ⟨lp,ln,lc,st,(b0,b1,b2),(j0,j1,j2),mn⟩ ⟨⟨k,m,tt,x,y⟩,pst,(q0,q1,q2)⟩ c bel:=Lib.hid λ h=>h1 h.1
  clear h1
  refine wp_region_qb 35 (by kernel_rfl) (by kernel_rfl) ?_
  simp only [List.take_succ_cons,List.take_zero,List.drop_succ_cons,List.drop_zero]
  repeat (go_big_quiet_step (fail))
  refine wpQuiet_nil ?_
  intro dq
  have hA3:=dq.block hA
  have hR3:=dq.block hR
  have hB3:=hB.trans (dq.2.mono hB.size)
  revert hA3 hR3 hB3
  generalize dq.1=W3
  intro hA3 hR3 hB3
  clear hJ hA hP hR hB hsW hbd a1 p0 p5 ak cc b2c be8 be9 be10 J0 J1 J2
  go_wp2_with (first
   | (refine wpList_load_row rfl 108 _ rfl w.heap.size rfl 108 _ (0,0) _ hA3 Tryz.underlying108 rfl sizeS ?_)
   | (refine wpList_store_row rfl 108 _ _ rfl (w.heap.size+1+1) rfl 108 _ #[.slice lp ln lc,.int .u64 st,.int .u64 b0,.int .u64 b1,.int .u64 b2,.int .u64 j0,.int .u64 j1,.int .u64 j2,.int .i64 (mn 0),.int .i64 (mn 1),.int .i64 (mn 2),.int .i64 (mn 3),.int .i64 (mn 4),.int .i64 (mn 5),.int .i64 (mn 6),.int .i64 (mn 7)] rfl hR3 sizeS rfl (by simp [Value.oneCell']) ?_))
  refine bodyPost_ret (results_row_tmp rfl Tryz.underlying108 rfl _ _ (w.heap.size+1+1) #[.slice lp ln lc,.int .u64 st,.int .u64 b0,.int .u64 b1,.int .u64 b2,.int .u64 j0,.int .u64 j1,.int .u64 j2,.int .i64 (mn 0),.int .i64 (mn 1),.int .i64 (mn 2),.int .i64 (mn 3),.int .i64 (mn 4),.int .i64 (mn 5),.int .i64 (mn 6),.int .i64 (mn 7)] (0,0) (.bool false) (setRow_heap _ _ _ _ _ _ hR3) sizeS rfl rfl) rfl ?_
  rw [← HPO.out]
  exact ⟨⟨lp,ln,lc,st,(b0,b1,b2),(j0,j1,j2),mn⟩,false,rfl,⟨λ h=>(by cases h),λ h=>(HN.out h).elim⟩,λ _=>rfl,λ h=>(by cases h),setRow_below hB3 (by omega) _⟩
 have v1:(((st &&& pst:Nat):Int) != 0)=false:=by simpa using h1
 have HS1:=Lib.hid h1; clear h1
 by_cases h2:(mn k:Int)<c
 case neg =>
  have v2:decide (c≤(mn k:Int))=true:=by simp; omega
  have HN:Hid ¬ canPut ⟨lp,ln,lc,st,(b0,b1,b2),(j0,j1,j2),mn⟩ ⟨⟨k,m,tt,x,y⟩,pst,(q0,q1,q2)⟩ c bel:=Lib.hid λ h=>h2 (by simpa using h.2.1)
  clear h2
  refine wp_region_qb 35 (by kernel_rfl) (by kernel_rfl) ?_
  simp only [List.take_succ_cons,List.take_zero,List.drop_succ_cons,List.drop_zero]
  repeat (go_big_quiet_step (fail))
  refine wpQuiet_nil ?_
  intro dq
  have hA3:=dq.block hA
  have hR3:=dq.block hR
  have hB3:=hB.trans (dq.2.mono hB.size)
  revert hA3 hR3 hB3
  generalize dq.1=W3
  intro hA3 hR3 hB3
  clear hJ hA hP hR hB hsW hbd a1 p0 p5 ak cc b2c be8 be9 be10 J0 J1 J2
  go_wp2_with (first
   | (refine wpList_load_row rfl 108 _ rfl w.heap.size rfl 108 _ (0,0) _ hA3 Tryz.underlying108 rfl sizeS ?_)
   | (refine wpList_store_row rfl 108 _ _ rfl (w.heap.size+1+1) rfl 108 _ #[.slice lp ln lc,.int .u64 st,.int .u64 b0,.int .u64 b1,.int .u64 b2,.int .u64 j0,.int .u64 j1,.int .u64 j2,.int .i64 (mn 0),.int .i64 (mn 1),.int .i64 (mn 2),.int .i64 (mn 3),.int .i64 (mn 4),.int .i64 (mn 5),.int .i64 (mn 6),.int .i64 (mn 7)] rfl hR3 sizeS rfl (by simp [Value.oneCell']) ?_))
  refine bodyPost_ret (results_row_tmp rfl Tryz.underlying108 rfl _ _ (w.heap.size+1+1) #[.slice lp ln lc,.int .u64 st,.int .u64 b0,.int .u64 b1,.int .u64 b2,.int .u64 j0,.int .u64 j1,.int .u64 j2,.int .i64 (mn 0),.int .i64 (mn 1),.int .i64 (mn 2),.int .i64 (mn 3),.int .i64 (mn 4),.int .i64 (mn 5),.int .i64 (mn 6),.int .i64 (mn 7)] (0,0) (.bool false) (setRow_heap _ _ _ _ _ _ hR3) sizeS rfl rfl) rfl ?_
  rw [← HPO.out]
  exact ⟨⟨lp,ln,lc,st,(b0,b1,b2),(j0,j1,j2),mn⟩,false,rfl,⟨λ h=>(by cases h),λ h=>(HN.out h).elim⟩,λ _=>rfl,λ h=>(by cases h),setRow_below hB3 (by omega) _⟩
 have v2:decide (c≤(mn k:Int))=false:=by simp; omega
 have HS2:=Lib.hid h2; clear h2
 obtain ⟨z0,z1,z2,hz⟩:∃ z0 z1 z2,andW (andW (b0,b1,b2) (q0,q1,q2)) bel=(z0,z1,z2):=⟨_,_,_,rfl⟩
 have hcall:∀ d:SubW W,Calls Tryz.prog 75 #[.agg #[.int .u64 (b0 &&& q0:Nat),.int .u64 (b1 &&& q1:Nat),.int .u64 (b2 &&& q2:Nat)],.agg #[.int .u64 bel.1,.int .u64 bel.2.1,.int .u64 bel.2.2]] d.1
   λ e w'=>e=.returned (.agg #[.int .u64 z0,.int .u64 z1,.int .u64 z2])∧∃ d':SubW W,w'=d'.1:=λ d=>by
  have:=both_q (andW (b0,b1,b2) (q0,q1,q2)) bel (okW_and HP2.out) HBEL.out d
  rw [hz] at this
  exact this
 have HZ:=Lib.hid hz; clear hz
 have HCALL:=Lib.hid hcall; clear hcall
 have heq:∀ d:SubW W,(Op.equalIn 10000 105 (.agg #[.int .u64 z0,.int .u64 z1,.int .u64 z2]) (.agg #[.int .u64 0,.int .u64 0,.int .u64 0])).run Tryz.prog d.1=.ok (decide (((z0,z1,z2):W3)=(0,0,0))) d.1:=λ d=>eqW_run (z0,z1,z2) (0,0,0) d.1
 by_cases h3:((z0,z1,z2):W3)=(0,0,0)
 case neg =>
  have heq2:∀ d:SubW W,(Op.equalIn 10000 105 (.agg #[.int .u64 z0,.int .u64 z1,.int .u64 z2]) (.agg #[.int .u64 0,.int .u64 0,.int .u64 0])).run Tryz.prog d.1=.ok false d.1:=λ d=>by rw [heq d,decide_eq_false h3]
  clear heq
  have HN:Hid ¬ canPut ⟨lp,ln,lc,st,(b0,b1,b2),(j0,j1,j2),mn⟩ ⟨⟨k,m,tt,x,y⟩,pst,(q0,q1,q2)⟩ c bel:=Lib.hid λ h=>h3 (HZ.out▸h.2.2)
  clear h3
  refine wp_region_qb 35 (by kernel_rfl) (by kernel_rfl) ?_
  simp only [List.take_succ_cons,List.take_zero,List.drop_succ_cons,List.drop_zero]
  repeat (go_big_quiet_step ((exact HCALL.out _)))
  refine wpQuiet_nil ?_
  intro dq
  have hA3:=dq.block hA
  have hR3:=dq.block hR
  have hB3:=hB.trans (dq.2.mono hB.size)
  revert hA3 hR3 hB3
  generalize dq.1=W3
  intro hA3 hR3 hB3
  clear hJ hA hP hR hB hsW hbd a1 p0 p5 ak cc b2c be8 be9 be10 J0 J1 J2
  go_wp2_with (first
   | (refine wpList_load_row rfl 108 _ rfl w.heap.size rfl 108 _ (0,0) _ hA3 Tryz.underlying108 rfl sizeS ?_)
   | (refine wpList_store_row rfl 108 _ _ rfl (w.heap.size+1+1) rfl 108 _ #[.slice lp ln lc,.int .u64 st,.int .u64 b0,.int .u64 b1,.int .u64 b2,.int .u64 j0,.int .u64 j1,.int .u64 j2,.int .i64 (mn 0),.int .i64 (mn 1),.int .i64 (mn 2),.int .i64 (mn 3),.int .i64 (mn 4),.int .i64 (mn 5),.int .i64 (mn 6),.int .i64 (mn 7)] rfl hR3 sizeS rfl (by simp [Value.oneCell']) ?_))
  refine bodyPost_ret (results_row_tmp rfl Tryz.underlying108 rfl _ _ (w.heap.size+1+1) #[.slice lp ln lc,.int .u64 st,.int .u64 b0,.int .u64 b1,.int .u64 b2,.int .u64 j0,.int .u64 j1,.int .u64 j2,.int .i64 (mn 0),.int .i64 (mn 1),.int .i64 (mn 2),.int .i64 (mn 3),.int .i64 (mn 4),.int .i64 (mn 5),.int .i64 (mn 6),.int .i64 (mn 7)] (0,0) (.bool false) (setRow_heap _ _ _ _ _ _ hR3) sizeS rfl rfl) rfl ?_
  rw [← HPO.out]
  exact ⟨⟨lp,ln,lc,st,(b0,b1,b2),(j0,j1,j2),mn⟩,false,rfl,⟨λ h=>(by cases h),λ h=>(HN.out h).elim⟩,λ _=>rfl,λ h=>(by cases h),setRow_below hB3 (by omega) _⟩
 have heq2:∀ d:SubW W,(Op.equalIn 10000 105 (.agg #[.int .u64 z0,.int .u64 z1,.int .u64 z2]) (.agg #[.int .u64 0,.int .u64 0,.int .u64 0])).run Tryz.prog d.1=.ok true d.1:=λ d=>by rw [heq d,decide_eq_true h3]
 clear heq
 have HS3:=Lib.hid h3; clear h3
 refine wp_region_qb 35 (by kernel_rfl) (by kernel_rfl) ?_
 simp only [List.take_succ_cons,List.take_zero,List.drop_succ_cons,List.drop_zero]
 repeat (go_big_quiet_step ((exact HCALL.out _)))
 refine wpQuiet_nil ?_
 intro dq
 have hA3:=dq.block hA
 have hP3:=dq.block hP
 have hR3:=dq.block hR
 have hJ3:=dq.block hJ
 have hB3:=hB.trans (dq.2.mono hB.size)
 have hs3:=dq.2.size
 revert hA3 hP3 hR3 hJ3 hB3 hs3
 generalize dq.1=W3
 intro hA3 hP3 hR3 hJ3 hB3 hs3
 clear hJ hA hP hR hB hbd a1 p0 p5 ak cc b2c be8 be9 be10 J0 J1 J2 heq2 HCALL u1 v1 v2
 go_wp2_with fail
 have hPc:W3.heap[w.heap.size+1]?=some (.cells (hpVals ⟨⟨k,m,tt,x,y⟩,pst,(q0,q1,q2)⟩).toArray 152 (0,0)):=hP3
 have hown3:RP.Own W3 base (.slice lp ln lc) ls:=owns_below HS'.out hB3
 have HOWN:=Lib.hid hown3; clear hown3
 refine wp_region_held 7 84 [] (by kernel_rfl) (by kernel_rfl) rfl (λ W=>Below W3.heap.size W3 W) (putF4 w.heap.size W3 lp ln lc ls ⟨⟨k,m,tt,x,y⟩,pst,(q0,q1,q2)⟩) (λ W W' h e=>h.trans (e.mono h.size)) putF4_below (Joins.below_draws _ W3 1) ?_ ?_
 ·simp only [List.take_succ_cons,List.take_zero,heldFrom,heldAt]
  refine ⟨?_,?_,?_,?_,?_,?_,?_,trivial⟩
  ·intro b W vals K hI
   have e:b.eval (.tmp 4)=.pointer (some ⟨w.heap.size,0,none⟩):=(K.was 4 (by kernel_rfl)).trans rfl
   refine lu_v (I:=Instr.fieldAt 108 (b.eval (.tmp 4)) 0) rfl ?_ ⟨Below.refl _ _,rfl⟩
   rw [e]; exact fieldS0 _ _
  ·intro b W vals K hI
   obtain ⟨e,f⟩:=K.val 0 50 (by kernel_rfl)
   have f':vals 0=.pointer (some ⟨w.heap.size,0,none⟩):=f
   refine lu_v (I:=Instr.loadAt 102 (b.eval (.tmp 50))) rfl ?_ ⟨Below.refl _ _,rfl⟩
   rw [e,f']; exact run_loadAt_cell Tryz.isAgg102 (by simp [World.cell?,(hI.block _ (Array.getElem?_eq_some_iff.1 hA3).1).trans hA3])
  ·intro b W vals K hI
   obtain ⟨e,f⟩:=K.val 1 51 (by kernel_rfl)
   have f':vals 1=.slice lp ln lc:=f
   refine lu_call (args:=#[.slice lp ln lc]) rfl (by simp only [List.map_toArray,List.map_cons,List.map_nil,e,f']) (enters_of Tryz.func138 (by kernel_rfl) rfl) ?_
   have hcl:ln≤lc∧lc≤maxLen∧(lp=none→lc=0):=by
    rcases HOWN.out.2 with ⟨h1,h2⟩ | ⟨g0,cap,cur,h1,h2,h3,h4,h5,h6⟩
    ·simp only [Value.slice.injEq] at h1
     obtain ⟨rfl,rfl,rfl⟩:=h1
     exact ⟨Nat.le_refl _,by decide,λ _=>rfl⟩
    ·simp only [Value.slice.injEq] at h1
     obtain ⟨rfl,rfl,rfl⟩:=h1
     exact ⟨h4,h5,λ h=>by cases h⟩
   refine (clip_any lp ln lc hcl.1 hcl.2.1 hcl.2.2 W).mono ?_
   rintro e w' ⟨rfl,rfl⟩
   exact ⟨_,rfl,Below.refl _ _,rfl⟩
  ·intro b W vals K hI
   have e:b.eval (.tmp 5)=.pointer (some ⟨w.heap.size+1,0,none⟩):=(K.was 5 (by kernel_rfl)).trans rfl
   refine lu_v (I:=Instr.loadAt 152 (b.eval (.tmp 5))) rfl ?_ ⟨Below.refl _ _,rfl⟩
   rw [e]
   have:=run_loadVar_row (P:=Tryz.prog) W (w.heap.size+1) 152 152 _ (0,0) _ ((hI.block _ (Array.getElem?_eq_some_iff.1 hPc).1).trans hPc) Tryz.underlying152 rfl sizeP
   simp only [Instr.loadAt,Instr.sureAddr,Sem.run_bind,Sem.run_pure,Result.andThen_ok,this,REnc.val]
   rfl
  ·intro b W vals K hI
   obtain ⟨e,f⟩:=K.val 3 53 (by kernel_rfl)
   have f':vals 3=RP.val ⟨⟨k,m,tt,x,y⟩,pst,(q0,q1,q2)⟩:=f
   obtain ⟨iI,hiI,hzI,hsI,hbI⟩:=info_parts infoPc
   refine run_build1_exec rfl (e.trans f') Tryz.underlying102 hiI hzI (by rw [hsI]; decide) (by rw [hsI]; decide) (cells:=(hpVals ⟨⟨k,m,tt,x,y⟩,pst,(q0,q1,q2)⟩).toArray) (by rw [hsI]; exact fill_piece _) ?_
   exact ⟨(Below.refl _ W).alloc (Nat.le_refl _) _,W.heap.size,rfl,World.alloc_heap_new W _⟩
  ·intro b W vals K hI
   obtain ⟨e1,f1⟩:=K.val 2 52 (by kernel_rfl)
   obtain ⟨e2,f2⟩:=K.val 4 54 (by kernel_rfl)
   have g1:vals 2=.slice lp ln ln:=f1
   obtain ⟨g,g2,hg⟩:∃ g,vals 4=.slice (some ⟨g,0,none⟩) 1 1∧W.heap[g]?=some (.cells (hpVals ⟨⟨k,m,tt,x,y⟩,pst,(q0,q1,q2)⟩).toArray 152 (0,0)):=f2
   obtain ⟨v,W',hr,ho,hbW⟩:=append_piece (owns_below HOWN.out hI) hg (by omega)
   refine run_append_exec rfl (e1.trans g1) (e2.trans g2) hr ⟨hbW,?_⟩
   exact owns_weak ho hI.size
  ·intro b W vals K hI
   have e:b.eval (.tmp 4)=.pointer (some ⟨w.heap.size,0,none⟩):=(K.was 4 (by kernel_rfl)).trans rfl
   refine lu_v (I:=Instr.fieldAt 108 (b.eval (.tmp 4)) 0) rfl ?_ ⟨Below.refl _ _,rfl⟩
   rw [e]; exact fieldS0 _ _
 ·intro W vals hI hf
  have g0:vals 0=.pointer (some ⟨w.heap.size,0,none⟩):=hf 0 (by decide)
  have g1:vals 1=.slice lp ln lc:=hf 1 (by decide)
  have g2:vals 2=.slice lp ln ln:=hf 2 (by decide)
  have g3:vals 3=RP.val ⟨⟨k,m,tt,x,y⟩,pst,(q0,q1,q2)⟩:=hf 3 (by decide)
  obtain ⟨g,g4,_⟩:∃ g,vals 4=.slice (some ⟨g,0,none⟩) 1 1∧W.heap[g]?=some (.cells (hpVals ⟨⟨k,m,tt,x,y⟩,pst,(q0,q1,q2)⟩).toArray 152 (0,0)):=hf 4 (by decide)
  have g5:RP.Own W W3.heap.size (vals 5) (ls++[⟨⟨k,m,tt,x,y⟩,pst,(q0,q1,q2)⟩]):=hf 5 (by decide)
  have g6:vals 6=.pointer (some ⟨w.heap.size,0,none⟩):=hf 6 (by decide)
  obtain ⟨np,nc,hn⟩:=g5.has.slice
  rw [hn] at g5
  rw [rp_val] at g3
  have hA4:=(hI.block _ (Array.getElem?_eq_some_iff.1 hA3).1).trans hA3
  have hP4:=(hI.block _ (Array.getElem?_eq_some_iff.1 hP3).1).trans hP3
  have hR4:=(hI.block _ (Array.getElem?_eq_some_iff.1 hR3).1).trans hR3
  have hJ4:=(hI.block _ (Array.getElem?_eq_some_iff.1 hJ3).1).trans hJ3
  have hB4:=hB3.trans (hI.mono hB3.size)
  simp only [List.take_succ_cons,List.take_zero,List.range_succ,List.range_zero,List.nil_append,List.cons_append,List.map_cons,List.map_nil,putAll,Act.put,List.setIfInBounds_toArray,List.set_cons_zero,List.set_cons_succ,g0,g1,g2,g3,g4,hn,g6]
  show wpActs _ _ _ _ 0 [7] _ _
  refine acts_store (i:=7) (T:=102) (x:=.tmp 56) (y:=.tmp 55) (q:=⟨w.heap.size,0,none⟩) (v:=.slice np (ls++[⟨⟨k,m,tt,x,y⟩,pst,(q0,q1,q2)⟩]:List HP).length nc) (w':=W.setCell ⟨w.heap.size,0,none⟩ (.slice np (ls++[⟨⟨k,m,tt,x,y⟩,pst,(q0,q1,q2)⟩]:List HP).length nc)) rfl rfl rfl ?_ ?_ ?_ trivial ?_
  ·rfl
  ·rfl
  ·exact run_storeAt_one Tryz.isAgg102 hA4 rfl Tryz.sizeOf102 rfl
  refine acts_nil ?_
  have hA5:(W.setCell ⟨w.heap.size,0,none⟩ (.slice np (ls++[⟨⟨k,m,tt,x,y⟩,pst,(q0,q1,q2)⟩]:List HP).length nc)).heap[w.heap.size]?=some (.cells #[.slice np (ls++[⟨⟨k,m,tt,x,y⟩,pst,(q0,q1,q2)⟩]:List HP).length nc,.int .u64 st,.int .u64 b0,.int .u64 b1,.int .u64 b2,.int .u64 j0,.int .u64 j1,.int .u64 j2,.int .i64 (mn 0),.int .i64 (mn 1),.int .i64 (mn 2),.int .i64 (mn 3),.int .i64 (mn 4),.int .i64 (mn 5),.int .i64 (mn 6),.int .i64 (mn 7)] 108 (0,0)):=heap_setCell_same _ _ _ _ _ _ hA4
  have hP5:=(heap_setCell_other W ⟨w.heap.size,0,none⟩ (w.heap.size+1) (.slice np (ls++[⟨⟨k,m,tt,x,y⟩,pst,(q0,q1,q2)⟩]:List HP).length nc) (by simp)).trans hP4
  have hR5:=(heap_setCell_other W ⟨w.heap.size,0,none⟩ (w.heap.size+1+1) (.slice np (ls++[⟨⟨k,m,tt,x,y⟩,pst,(q0,q1,q2)⟩]:List HP).length nc) (by simp; omega)).trans hR4
  have hJ5:=(heap_setCell_other W ⟨w.heap.size,0,none⟩ J (.slice np (ls++[⟨⟨k,m,tt,x,y⟩,pst,(q0,q1,q2)⟩]:List HP).length nc) (by simp; omega)).trans hJ4
  have hB5:Below w.heap.size w (W.setCell ⟨w.heap.size,0,none⟩ (.slice np (ls++[⟨⟨k,m,tt,x,y⟩,pst,(q0,q1,q2)⟩]:List HP).length nc)):=hB4.setCell (Nat.le_refl _) _
  have hO5:=owns_setCell g5 (a:=⟨w.heap.size,0,none⟩) (by simp; omega) (.slice np (ls++[⟨⟨k,m,tt,x,y⟩,pst,(q0,q1,q2)⟩]:List HP).length nc)
  clear hA4 hP4 hR4 hJ4 hB4 hA3 hP3 hR3 hJ3 hB3 hPc hf hI g0 g1 g2 g3 g4 g5 g6 hn
  revert hA5 hP5 hR5 hJ5 hB5 hO5
  generalize W.setCell ⟨w.heap.size,0,none⟩ (.slice np (ls++[⟨⟨k,m,tt,x,y⟩,pst,(q0,q1,q2)⟩]:List HP).length nc)=W5
  intro hA5 hP5 hR5 hJ5 hB5 hO5
  have HO5:=Lib.hid hO5; clear hO5
  revert HO5 hA5
  generalize hn5:(ls++[⟨⟨k,m,tt,x,y⟩,pst,(q0,q1,q2)⟩]:List HP).length=n5
  have HN5:=Lib.hid hn5; clear hn5
  intro hA5 HO5
  have a1:W5.cell? ⟨w.heap.size,1,none⟩=some (.int .u64 st):=by simp [World.cell?,hA5]
  have af:W5.frozen? ⟨w.heap.size,1,none⟩=false:=frozen_of_row W5 _ 1 _ _ hA5
  have p5:W5.cell? ⟨w.heap.size+1,5,none⟩=some (.int .u64 pst):=by simp [World.cell?,hP5]
  have o1:=or64 hs1 hp1
  go_wp2_with fail
  have hA6:(W5.setCell ⟨w.heap.size,1,none⟩ (.int .u64 (st ||| pst:Nat))).heap[w.heap.size]?=some (.cells #[.slice np n5 nc,.int .u64 (st ||| pst:Nat),.int .u64 b0,.int .u64 b1,.int .u64 b2,.int .u64 j0,.int .u64 j1,.int .u64 j2,.int .i64 (mn 0),.int .i64 (mn 1),.int .i64 (mn 2),.int .i64 (mn 3),.int .i64 (mn 4),.int .i64 (mn 5),.int .i64 (mn 6),.int .i64 (mn 7)] 108 (0,0)):=heap_setCell_same _ _ _ _ _ _ hA5
  have hP6:=(heap_setCell_other W5 ⟨w.heap.size,1,none⟩ (w.heap.size+1) (.int .u64 (st ||| pst:Nat)) (by simp)).trans hP5
  have hR6:=(heap_setCell_other W5 ⟨w.heap.size,1,none⟩ (w.heap.size+1+1) (.int .u64 (st ||| pst:Nat)) (by simp; omega)).trans hR5
  have hJ6:=(heap_setCell_other W5 ⟨w.heap.size,1,none⟩ J (.int .u64 (st ||| pst:Nat)) (by simp; omega)).trans hJ5
  have hB6:Below w.heap.size w (W5.setCell ⟨w.heap.size,1,none⟩ (.int .u64 (st ||| pst:Nat))):=hB5.setCell (Nat.le_refl _) _
  have hO6:=owns_setCell HO5.out (a:=⟨w.heap.size,1,none⟩) (by simp; omega) (.int .u64 (st ||| pst:Nat))
  have HO6:=Lib.hid hO6; clear hO6
  clear hA5 hP5 hR5 hJ5 hB5 HO5 a1 af p5 o1
  revert hA6 hP6 hR6 hJ6 hB6 HO6
  generalize W5.setCell ⟨w.heap.size,1,none⟩ (.int .u64 (st ||| pst:Nat))=W6
  intro hA6 hP6 hR6 hJ6 hB6 HO6
  have a2:∀ d:SubW W6,d.1.cell? ⟨w.heap.size,2,none⟩=some (.int .u64 b0):=λ d=>by simp [World.cell?,d.block hA6]
  have a3:∀ d:SubW W6,d.1.cell? ⟨w.heap.size,3,none⟩=some (.int .u64 b1):=λ d=>by simp [World.cell?,d.block hA6]
  have a4:∀ d:SubW W6,d.1.cell? ⟨w.heap.size,4,none⟩=some (.int .u64 b2):=λ d=>by simp [World.cell?,d.block hA6]
  have a5:∀ d:SubW W6,d.1.cell? ⟨w.heap.size,5,none⟩=some (.int .u64 j0):=λ d=>by simp [World.cell?,d.block hA6]
  have a6:∀ d:SubW W6,d.1.cell? ⟨w.heap.size,6,none⟩=some (.int .u64 j1):=λ d=>by simp [World.cell?,d.block hA6]
  have a7:∀ d:SubW W6,d.1.cell? ⟨w.heap.size,7,none⟩=some (.int .u64 j2):=λ d=>by simp [World.cell?,d.block hA6]
  have p6:∀ d:SubW W6,d.1.cell? ⟨w.heap.size+1,6,none⟩=some (.int .u64 q0):=λ d=>by simp [World.cell?,d.block hP6]
  have p7:∀ d:SubW W6,d.1.cell? ⟨w.heap.size+1,7,none⟩=some (.int .u64 q1):=λ d=>by simp [World.cell?,d.block hP6]
  have p8:∀ d:SubW W6,d.1.cell? ⟨w.heap.size+1,8,none⟩=some (.int .u64 q2):=λ d=>by simp [World.cell?,d.block hP6]
  have J0:∀ d:SubW W6,d.1.cell? ⟨J,0,none⟩=some (.int .u64 (b0 &&& q0:Nat)):=λ d=>by simp [World.cell?,d.block hJ6]
  have J1:∀ d:SubW W6,d.1.cell? ⟨J,1,none⟩=some (.int .u64 (b1 &&& q1:Nat)):=λ d=>by simp [World.cell?,d.block hJ6]
  have J2:∀ d:SubW W6,d.1.cell? ⟨J,2,none⟩=some (.int .u64 (b2 &&& q2:Nat)):=λ d=>by simp [World.cell?,d.block hJ6]
  have HOR1:Hid (∀ d:SubW W6,Calls Tryz.prog 110 #[.agg #[.int .u64 b0,.int .u64 b1,.int .u64 b2],.agg #[.int .u64 q0,.int .u64 q1,.int .u64 q2]] d.1
   λ e w'=>e=.returned (.agg #[.int .u64 (b0 ||| q0:Nat),.int .u64 (b1 ||| q1:Nat),.int .u64 (b2 ||| q2:Nat)])∧∃ d':SubW W6,w'=d'.1):=Lib.hid λ d=>or_q (b0,b1,b2) (q0,q1,q2) H2.out HP2.out d
  have HOR2:Hid (∀ d:SubW W6,Calls Tryz.prog 110 #[.agg #[.int .u64 j0,.int .u64 j1,.int .u64 j2],.agg #[.int .u64 (b0 &&& q0:Nat),.int .u64 (b1 &&& q1:Nat),.int .u64 (b2 &&& q2:Nat)]] d.1
   λ e w'=>e=.returned (.agg #[.int .u64 (j0 ||| (b0 &&& q0):Nat),.int .u64 (j1 ||| (b1 &&& q1):Nat),.int .u64 (j2 ||| (b2 &&& q2):Nat)])∧∃ d':SubW W6,w'=d'.1):=Lib.hid λ d=>or_q (j0,j1,j2) (andW (b0,b1,b2) (q0,q1,q2)) H3.out (okW_and HP2.out) d
  refine wp_region_qb 10 (by kernel_rfl) (by kernel_rfl) ?_
  simp only [List.take_succ_cons,List.take_zero,List.drop_succ_cons,List.drop_zero]
  repeat (go_big_quiet_step (fail))
  go_big_quiet_step (exact HOR1.out _)
  repeat (go_big_quiet_step (fail))
  go_big_quiet_step (exact HOR2.out _)
  repeat (go_big_quiet_step (fail))
  refine wpQuiet_nil ?_
  intro dq6
  have hA7:=dq6.block hA6
  have hP7:=dq6.block hP6
  have hR7:=dq6.block hR6
  have hB7:=hB6.trans (dq6.2.mono hB6.size)
  have hO7:=owns_below HO6.out dq6.2
  have HO7:=Lib.hid hO7; clear hO7
  revert hA7 hP7 hR7 hB7 HO7
  generalize dq6.1=W7
  intro hA7 hP7 hR7 hB7 HO7
  clear hJ6 hA6 hP6 hR6 hB6 HO6 a2 a3 a4 a5 a6 a7 p6 p7 p8 J0 J1 J2
  have af:∀ j,W7.frozen? ⟨w.heap.size,j,none⟩=false:=λ j=>frozen_of_row W7 _ j _ _ hA7
  have a2:W7.cell? ⟨w.heap.size,2,none⟩=some (.int .u64 b0):=by simp [World.cell?,hA7]
  have a3:W7.cell? ⟨w.heap.size,3,none⟩=some (.int .u64 b1):=by simp [World.cell?,hA7]
  have a4:W7.cell? ⟨w.heap.size,4,none⟩=some (.int .u64 b2):=by simp [World.cell?,hA7]
  have a5:W7.cell? ⟨w.heap.size,5,none⟩=some (.int .u64 j0):=by simp [World.cell?,hA7]
  have a6:W7.cell? ⟨w.heap.size,6,none⟩=some (.int .u64 j1):=by simp [World.cell?,hA7]
  have a7:W7.cell? ⟨w.heap.size,7,none⟩=some (.int .u64 j2):=by simp [World.cell?,hA7]
  go_upto_region 7 with fail
  have hA8:((((((W7.setCell ⟨w.heap.size,2,none⟩ (.int .u64 (b0 ||| q0:Nat))).setCell ⟨w.heap.size,3,none⟩ (.int .u64 (b1 ||| q1:Nat))).setCell ⟨w.heap.size,4,none⟩ (.int .u64 (b2 ||| q2:Nat))).setCell ⟨w.heap.size,5,none⟩ (.int .u64 (j0 ||| (b0 &&& q0):Nat))).setCell ⟨w.heap.size,6,none⟩ (.int .u64 (j1 ||| (b1 &&& q1):Nat))).setCell ⟨w.heap.size,7,none⟩ (.int .u64 (j2 ||| (b2 &&& q2):Nat))).heap[w.heap.size]?=some (.cells #[.slice np n5 nc,.int .u64 (st ||| pst:Nat),.int .u64 (b0 ||| q0:Nat),.int .u64 (b1 ||| q1:Nat),.int .u64 (b2 ||| q2:Nat),.int .u64 (j0 ||| (b0 &&& q0):Nat),.int .u64 (j1 ||| (b1 &&& q1):Nat),.int .u64 (j2 ||| (b2 &&& q2):Nat),.int .i64 (mn 0),.int .i64 (mn 1),.int .i64 (mn 2),.int .i64 (mn 3),.int .i64 (mn 4),.int .i64 (mn 5),.int .i64 (mn 6),.int .i64 (mn 7)] 108 (0,0)):=six_same hA7 (.int .u64 (b0 ||| q0:Nat)) (.int .u64 (b1 ||| q1:Nat)) (.int .u64 (b2 ||| q2:Nat)) (.int .u64 (j0 ||| (b0 &&& q0):Nat)) (.int .u64 (j1 ||| (b1 &&& q1):Nat)) (.int .u64 (j2 ||| (b2 &&& q2):Nat))
  have hP8:=(six_other W7 (A:=w.heap.size) (k:=w.heap.size+1) (by omega) (.int .u64 (b0 ||| q0:Nat)) (.int .u64 (b1 ||| q1:Nat)) (.int .u64 (b2 ||| q2:Nat)) (.int .u64 (j0 ||| (b0 &&& q0):Nat)) (.int .u64 (j1 ||| (b1 &&& q1):Nat)) (.int .u64 (j2 ||| (b2 &&& q2):Nat))).trans hP7
  have hR8:=(six_other W7 (A:=w.heap.size) (k:=w.heap.size+1+1) (by omega) (.int .u64 (b0 ||| q0:Nat)) (.int .u64 (b1 ||| q1:Nat)) (.int .u64 (b2 ||| q2:Nat)) (.int .u64 (j0 ||| (b0 &&& q0):Nat)) (.int .u64 (j1 ||| (b1 &&& q1):Nat)) (.int .u64 (j2 ||| (b2 &&& q2):Nat))).trans hR7
  have hB8:=six_below hB7 (Nat.le_refl _) (.int .u64 (b0 ||| q0:Nat)) (.int .u64 (b1 ||| q1:Nat)) (.int .u64 (b2 ||| q2:Nat)) (.int .u64 (j0 ||| (b0 &&& q0):Nat)) (.int .u64 (j1 ||| (b1 &&& q1):Nat)) (.int .u64 (j2 ||| (b2 &&& q2):Nat))
  have hO8:=six_owns HO7.out (A:=w.heap.size) (by omega) (.int .u64 (b0 ||| q0:Nat)) (.int .u64 (b1 ||| q1:Nat)) (.int .u64 (b2 ||| q2:Nat)) (.int .u64 (j0 ||| (b0 &&& q0):Nat)) (.int .u64 (j1 ||| (b1 &&& q1):Nat)) (.int .u64 (j2 ||| (b2 &&& q2):Nat))
  have HO8:=Lib.hid hO8; clear hO8
  clear hA7 hP7 hR7 hB7 HO7 a2 a3 a4 a5 a6 a7 af
  revert hA8 hP8 hR8 hB8 HO8
  generalize ((((((W7.setCell ⟨w.heap.size,2,none⟩ (.int .u64 (b0 ||| q0:Nat))).setCell ⟨w.heap.size,3,none⟩ (.int .u64 (b1 ||| q1:Nat))).setCell ⟨w.heap.size,4,none⟩ (.int .u64 (b2 ||| q2:Nat))).setCell ⟨w.heap.size,5,none⟩ (.int .u64 (j0 ||| (b0 &&& q0):Nat))).setCell ⟨w.heap.size,6,none⟩ (.int .u64 (j1 ||| (b1 &&& q1):Nat))).setCell ⟨w.heap.size,7,none⟩ (.int .u64 (j2 ||| (b2 &&& q2):Nat)))=W8
  intro hA8 hP8 hR8 hB8 HO8
  have af:∀ j,W8.frozen? ⟨w.heap.size,j,none⟩=false:=λ j=>frozen_of_row W8 _ j _ _ hA8
  have ak:W8.cell? ⟨w.heap.size,8+k,none⟩=some (.int .i64 (mn k)):=by
   rcases (by omega:k=0∨k=1∨k=2∨k=3∨k=4∨k=5∨k=6∨k=7) with rfl | rfl | rfl | rfl | rfl | rfl | rfl | rfl <;> simp [World.cell?,hA8]
  have p0:W8.cell? ⟨w.heap.size+1,0,none⟩=some (.int .i64 k):=by simp [World.cell?,hP8]
  have hmk:=H4.out k
  go_upto_region 8 with fail
  have hA9:∃ cs9:List Value,cs9=hsVals ⟨np,n5,nc,st ||| pst,(b0 ||| q0,b1 ||| q1,b2 ||| q2),(j0 ||| (b0 &&& q0),j1 ||| (b1 &&& q1),j2 ||| (b2 &&& q2)),λ j=>if j=k then mn k+1 else mn j⟩∧(W8.setCell ⟨w.heap.size,8+k,none⟩ (.int .i64 ((mn k:Int)+1))).heap[w.heap.size]?=some (.cells cs9.toArray 108 (0,0)):=by
   refine ⟨_,rfl,?_⟩
   rw [heap_setCell_same _ _ _ _ _ _ hA8]
   rcases (by omega:k=0∨k=1∨k=2∨k=3∨k=4∨k=5∨k=6∨k=7) with rfl | rfl | rfl | rfl | rfl | rfl | rfl | rfl <;> simp [hsVals]
  obtain ⟨cs9,hcs,hA9⟩:=hA9
  have hz:cs9.length=16:=by rw [hcs]; rfl
  have hone:cs9.toArray.all (·.oneCell')=true:=by rw [hcs]; simp [hsVals,Value.oneCell']
  have hR9:=(heap_setCell_other W8 ⟨w.heap.size,8+k,none⟩ (w.heap.size+1+1) (.int .i64 ((mn k:Int)+1)) (by simp; omega)).trans hR8
  have hB9:=hB8.setCell (p:=⟨w.heap.size,8+k,none⟩) (Nat.le_refl _) (.int .i64 ((mn k:Int)+1))
  have hO9:=owns_setCell HO8.out (a:=⟨w.heap.size,8+k,none⟩) (by simp; omega) (.int .i64 ((mn k:Int)+1))
  have HO9:=Lib.hid hO9; clear hO9
  have HCS:=Lib.hid hcs; clear hcs
  have HZ9:=Lib.hid hz; clear hz
  clear hA8 hR8 hP8 hB8 HO8 af ak p0 hmk
  revert hA9 hR9 hB9 HO9
  generalize W8.setCell ⟨w.heap.size,8+k,none⟩ (.int .i64 ((mn k:Int)+1))=W9
  intro hA9 hR9 hB9 HO9
  have hi9:(Tryz.prog.info? 108).map (·.size)=some cs9.toArray.size:=by rw [List.size_toArray,HZ9.out]; exact sizeS
  go_wp2_with (first
   | (refine wpList_load_row rfl 108 _ rfl w.heap.size rfl 108 cs9.toArray (0,0) _ hA9 Tryz.underlying108 rfl hi9 ?_)
   | (refine wpList_store_row rfl 108 _ _ rfl (w.heap.size+1+1) rfl 108 _ cs9.toArray rfl hR9 hi9 (by show 16=cs9.toArray.size; rw [List.size_toArray,HZ9.out]) hone ?_))
  refine bodyPost_ret (results_row_tmp rfl Tryz.underlying108 rfl _ _ (w.heap.size+1+1) cs9.toArray (0,0) (.bool true) (setRow_heap _ _ _ _ _ _ hR9) hi9 rfl rfl) rfl ?_
  rw [← HPO.out]
  have hW:RP.Own W9 W3.heap.size (.slice np n5 nc) (ls++[⟨⟨k,m,tt,x,y⟩,pst,(q0,q1,q2)⟩]):=by
   show W9.ownsRow _ RP.ty RP.n _ (ls++[(⟨⟨k,m,tt,x,y⟩,pst,(q0,q1,q2)⟩:HP)]).length _
   rw [HN5.out]; exact HO9.out
  refine ⟨⟨np,n5,nc,st ||| pst,(b0 ||| q0,b1 ||| q1,b2 ||| q2),(j0 ||| (b0 &&& q0),j1 ||| (b1 &&& q1),j2 ||| (b2 &&& q2)),λ j=>if j=k then mn k+1 else mn j⟩,true,?_,⟨λ _=>⟨HS1.out,by simpa using HS2.out,?_⟩,λ _=>rfl⟩,λ h=>(by cases h),λ _=>⟨rfl,rfl,rfl,rfl,?_⟩,setRow_below hB9 (by omega) _⟩
  ·rw [HCS.out]; rfl
  ·show andW (andW (b0,b1,b2) (q0,q1,q2)) bel=(0,0,0)
   rw [HZ.out]; exact HS3.out
  ·refine owns_weak (owns_move hW λ kk e=>setRow_other _ _ _ _ ?_) (by omega)
   have:=(owns_lt hW e).1
   omega
end Go.Proofs.YtiinlplgloaanaaGreatDoor
/- Chapter 7 in the heap: a tiling is found: its bricks are sorted, and it is appended to the list. -/
namespace Go.Proofs.YtiinlplgloaanaaGreatDoor
set_option linter.all false
open Go.RowKit
theorem infoSt:(Tryz.prog.info? 108).map (λ i=>(i.zero,i.size,i.bytes))=some (some (.agg #[.slice none 0 0,.int .u64 0,.int .u64 0,.int .u64 0,.int .u64 0,.int .u64 0,.int .u64 0,.int .u64 0,.int .i64 0,.int .i64 0,.int .i64 0,.int .i64 0,.int .i64 0,.int .i64 0,.int .i64 0,.int .i64 0]),16,144):=by kernel_rfl
theorem snoc_get {α:Type} {l:List α} {x y:α} {i:Nat} (h:(l++[x])[i]?=some y):l[i]?=some y∨(i=l.length∧y=x):=by
 by_cases hi:i<l.length
 ·rw [List.getElem?_append_left hi] at h; exact .inl h
 ·rw [List.getElem?_append_right (by omega)] at h
  obtain ⟨h1,h2⟩:=List.getElem?_eq_some_iff.1 h
  simp at h1
  exact .inr ⟨by omega,by simpa using h2.symm⟩
set_option maxRecDepth 100000 in
set_option maxHeartbeats 2000000 in
theorem found_any {g:List Q} {L:List E} (hg64:g.length≤64) {lb base:Nat} {F:Nat→Prop} {Ts:List (List Pc)} {S:HS} {T:List Pc} {W:World} (hj:TJ W g L lb base F Ts) (hst:StT g L T S)
  (hs:RP.Own W base S.laid (T.map (hpT g L))) (hnF:∀ k,S.laid.ownBlock=some k→¬ F k) (hT:TbAt W) (hTg:1<base) (ha:ApartT T) (hin:∀ p∈T,∃ q∈g,q∈p.qs) (hne:T≠[]) (hTl:T.length≤64)
  (hlen:Ts.length≤1000000000) (hbase:base≤W.heap.size) :
  Calls Tryz.prog 90 #[RS.val S,.pointer (some ⟨lb,0,none⟩)] W λ e W'=>(∃ v,e=.returned v)∧∃ F':Nat→Prop,TJ W' g L lb base F' (Ts++[T]) ∧
   (∀ k,F' k→F k∨S.laid.ownBlock=some k∨W.heap.size≤k)∧Fr (λ k=>F k∨S.laid.ownBlock=some k) W W':=by
 obtain ⟨v,Ss,h1,h2,h3,h4,h5,h6,h7,h8⟩:=hj
 obtain ⟨vp,vc,rfl⟩:∃ vp vc,v=.slice vp Ss.length vc:=(REnc.Own.has (R:=RS) h2).slice
 have hlb:=h8 lb h5
 have hW:=Lib.hid (rfl:W.heap.size=W.heap.size)
 have hq1:RP.Own (W.alloc (.cells (hsVals S).toArray 108)) base S.laid (T.map (hpT g L)):=owns_below hs ((Below.refl _ W).alloc (Nat.le_refl _) _)
 have hT1:TbAt (W.alloc (.cells (hsVals S).toArray 108)):=hT.below ((Below.refl _ W).alloc (Nat.le_refl _) _)
 have hA1:=World.alloc_heap_new W (.cells (hsVals S).toArray 108)
 obtain ⟨hperm,hsort⟩:=sorted_T (L:=L) hg64 ha hin
 have hC:=sortPc_any base S.laid (T.map (hpT g L)) ((sortP g T).map (hpT g L)) _ hT1 hTg hq1 (by simpa using hne) (by rw [List.length_map]; omega) (λ p hp=>by
  obtain ⟨r,_,rfl⟩:=List.mem_map.1 hp
  exact Nat.lt_of_lt_of_le (setG_lt _ g) (Nat.pow_le_pow_right (by decide) hg64)) hperm hsort
 have hlaid:∀ k,S.laid.ownBlock=some k→k<W.heap.size:=λ k hk=>(owns_lt hs hk).2.1
 have HST:=Lib.hid hst; clear hst
 have HNF:=Lib.hid hnF; clear hnF
 have H2:=Lib.hid h2; clear h2
 have H3:=Lib.hid h3; clear h3
 have H4:=Lib.hid h4; clear h4
 have H6:=Lib.hid h6; clear h6
 have H7:=Lib.hid h7; clear h7
 have H8:=Lib.hid h8; clear h8
 have HLAID:=Lib.hid hlaid; clear hlaid
 clear hs hperm hsort hne hTl ha hin hT hT1 hq1
 have c0:(W.alloc (.cells (hsVals S).toArray 108)).cell? ⟨W.heap.size,0,none⟩=some (.slice S.lp S.ln S.lc):=by simp only [World.cell?,hA1]; rfl
 show Calls _ _ #[.agg (hsVals S).toArray,_] _ _
 have HC:=Lib.hid hC; clear hC
 go_enter Tryz.func90,Tryz.ntmps90
 go_wp2_with fail
 refine HC.out.mono ?_
 rintro e w2 ⟨rfl,ho2,hz2,hos2,htp2,hout2,hk2⟩
 clear HC c0
 -- the blocks behind the sort
 have hal:Below W.heap.size W (W.alloc (.cells (hsVals S).toArray 108)):=(Below.refl _ W).alloc (Nat.le_refl _) _
 have hsz:(W.alloc (.cells (hsVals S).toArray 108)).heap.size=W.heap.size+1:=World.size_alloc _ _
 have hbk:∀ k,k<W.heap.size→S.laid.ownBlock≠some k→w2.heap[k]?=W.heap[k]?:=λ k hk hne=>(hk2 k (by omega) hne).trans (hal.block k hk)
 have hA2:w2.heap[W.heap.size]?=some (.cells (hsVals S).toArray 108 (0,0)):=(hk2 _ (by omega) λ e=>by have:=HLAID.out _ e; omega).trans hA1
 have hlb2:w2.heap[lb]?=some (.cells #[.slice vp Ss.length vc] 96 (0,0)):=(hbk lb (Array.getElem?_eq_some_iff.1 h1).1 λ e=>HNF.out _ e h5).trans h1
 have hown2:RS.Own w2 base (.slice vp Ss.length vc) Ss:=owns_move H2.out λ k e=>hbk k (owns_lt H2.out e).2.1 λ e'=>HNF.out _ e' (H6.out k e)
 have hz:W.heap.size+1≤w2.heap.size:=by omega
 have hos:w2.os=W.os:=hos2.trans hal.os
 have htp:w2.tape=W.tape:=htp2.trans hal.tape
 have hout:w2.output=W.output:=hout2.trans hal.output
 clear hA1 hk2 hsz hz2 hos2 htp2 hout2
 obtain ⟨k0,k1,k2,k3,k4,k5,k6,k7,k8,k9,k10,k11,k12,k13,k14,k15⟩:=hs_cells hA2
 have a0:w2.cell? ⟨lb,0,none⟩=some (.slice vp Ss.length vc):=by simp [World.cell?,hlb2]
 have HO2:=Lib.hid ho2; clear ho2
 have HBK:=Lib.hid hbk; clear hbk
 have HFX:=Lib.hid (And.intro hos (And.intro htp (And.intro hout hz))); clear hos htp hout hz
 clear hA2 hal
 obtain ⟨iS,hiS,hzS,hsS,hbS⟩:=info_parts infoSt
 have HM1:Hid (Ss.length+1≤maxLen):=Lib.hid (by simp only [maxLen]; have:=H3.out; omega)
 have HM2:Hid ((Ss.length+1)*144≤140737488355328):=Lib.hid (by have:=H3.out; omega)
 have hbs2:base≤w2.heap.size:=by have:=HFX.out.2.2.2; omega
 have hown3:=owns_below hown2 ((Below.refl _ w2).alloc (Nat.le_refl _) (.cells (hsVals S).toArray 108))
 have hlb3:=heapO (.cells (hsVals S).toArray 108) hlb2
 have hcells:=block_cells (World.alloc_heap_new w2 (.cells (hsVals S).toArray 108))
 have hne:∀ k,(Value.slice vp Ss.length vc).ownBlock=some k→k≠lb:=λ k e e'=>by
  obtain ⟨_,_,cur,hc⟩:=owns_lt hown2 e
  rw [e',hlb2] at hc
  simp only [Option.some.injEq,Obj.cells.injEq] at hc
  exact absurd hc.2.1 (by decide)
 have hgr0:∀ (w1:World),(w2.alloc (.cells (hsVals S).toArray 108)).grownBy w1 (Value.slice vp Ss.length vc).ownBlock→w1.heap[lb]?=some (.cells #[.slice vp Ss.length vc] 96 (0,0)):=λ w1 hg =>
  (hg.block lb (Array.getElem?_eq_some_iff.1 hlb3).1 λ e=>hne lb e.symm rfl).trans hlb3
 have HG0:=Lib.hid hgr0; clear hgr0
 have HNE:=Lib.hid hne; clear hne
 have HOW3:=Lib.hid hown3; clear hown3
 have HCE:=Lib.hid hcells; clear hcells
 have HL2:=Lib.hid hlb2; clear hlb2 hown2 hlb3 h1
 go_wp2_with (first
  | (at_builtin; refine wpList_append_own_at (P:=Tryz.prog) _ rfl _ _ 96 rfl base 108 iS _ 16 144 Tryz.underlying96 hiS hzS hsS hbS rfl (by decide) (.slice vp Ss.length vc) Ss.length (RS.cells Ss) rfl HOW3.out ⟨w2.heap.size,0,none⟩ 1 1 (hsVals S) rfl rfl HCE.out (RS.one S) HM1.out HM2.out (by rw [World.size_alloc]; omega) ?_; intro v' w1 hown' hgrow _ hat; obtain ⟨p',c',rfl⟩:=own_slice hown'; have hb1:Boxed w1 lb 96 (.slice vp Ss.length vc):=HG0.out _ hgrow; have c1:=hb1.cell; have f1:=hb1.frozen))
 have hgrow':(w2.alloc (.cells (hsVals S).toArray 108)).grownBy w1 (Value.slice vp Ss.length vc).ownBlock:=hgrow
 have hat':(Value.slice p' (Ss.length+1) c').ownBlock=(Value.slice vp Ss.length vc).ownBlock∨(Value.slice p' (Ss.length+1) c').ownBlock=some (w2.heap.size+1):=by
  rcases hat with h | h
  ·exact .inl h
  ·exact .inr (h.trans (by rw [World.size_alloc]))
 have hown4:RS.Own w1 base (.slice p' (Ss.length+1) c') (Ss++[S]):=RS.own_snoc hown'
 clear hgrow hat hown' c1 f1
 have hlbs:=(Array.getElem?_eq_some_iff.1 HL2.out).1
 have hz2:=HFX.out.2.2.2
 have hsz2:(w2.alloc (.cells (hsVals S).toArray 108)).heap.size=w2.heap.size+1:=World.size_alloc _ _
 have hal2:Below w2.heap.size w2 (w2.alloc (.cells (hsVals S).toArray 108)):=(Below.refl _ w2).alloc (Nat.le_refl _) _
 have hkeep:∀ k,k<w2.heap.size→k≠lb→(Value.slice vp Ss.length vc).ownBlock≠some k→(w1.setCell ⟨lb,0,none⟩ (.slice p' (Ss.length+1) c')).heap[k]?=w2.heap[k]?:=λ k hk hne hv =>
  (heap_setCell_other _ _ _ _ hne).trans ((hgrow'.block k (by omega) λ e=>hv e.symm).trans (hal2.block k hk))
 have hvs:∀ k,(Value.slice vp Ss.length vc).ownBlock=some k→∃ cur,(w2.alloc (.cells (hsVals S).toArray 108)).heap[k]?=some (.cells cur 108 (0,0)):=λ k e=>(owns_lt HOW3.out e).2.2
 have hmv:∀ (k:Nat) (cs:Array Value),w2.heap[k]?=some (.cells cs 152 (0,0))→(w1.setCell ⟨lb,0,none⟩ (.slice p' (Ss.length+1) c')).heap[k]?=w2.heap[k]?:=λ k cs hc=>by
  have hk:=(Array.getElem?_eq_some_iff.1 hc).1
  refine hkeep k hk (λ e=>?_) (λ e=>?_)
  ·subst e; rw [HL2.out] at hc
   simp only [Option.some.injEq,Obj.cells.injEq] at hc
   exact absurd hc.2.1 (by decide)
  ·obtain ⟨cur,hcur⟩:=hvs k e
   rw [hal2.block k hk,hc] at hcur
   simp only [Option.some.injEq,Obj.cells.injEq] at hcur
   exact absurd hcur.2.1 (by decide)
 have hown5:RS.Own (w1.setCell ⟨lb,0,none⟩ (.slice p' (Ss.length+1) c')) base (.slice p' (Ss.length+1) c') (Ss++[S]):=owns_move hown4 λ k e=>heap_setCell_other _ _ _ _ (by
  rcases hat' with h | h
  ·exact HNE.out k (h▸e)
  ·rw [h] at e; cases e; exact λ e=>by simp only at e; omega)
 go_end0
 refine ⟨⟨_,rfl⟩,λ k=>(F k∧(Value.slice vp Ss.length vc).ownBlock≠some k)∨S.laid.ownBlock=some k∨(Value.slice p' (Ss.length+1) c').ownBlock=some k,
  ⟨.slice p' (Ss.length+1) c',Ss++[S],hb1.set _,hown5,by rw [List.length_append,List.length_append,H3.out]; rfl,?_,.inl ⟨h5,λ e=>HNE.out _ e rfl⟩,λ k e=>.inr (.inr e),?_,?_⟩,?_,?_⟩
 ·intro i S' T' hS' hT'
  rcases snoc_get hS' with hS1 | ⟨hi,rfl⟩
  ·rcases snoc_get hT' with hT1 | ⟨hi,rfl⟩
   ·obtain ⟨a,b⟩:=H4.out i S' T' hS1 hT1
    refine ⟨a,owns_move b λ k e=>?_⟩
    obtain ⟨_,hk,cur,hc⟩:=owns_lt b e
    have hFk:=H7.out S' (List.mem_of_getElem? hS1) k e
    have h2:=HBK.out k hk λ e'=>HNF.out _ e' hFk
    exact (hmv k cur (h2.trans hc)).trans h2
   ·have:=(List.getElem?_eq_some_iff.1 hS1).1
    have:=H3.out
    omega
  ·rcases snoc_get hT' with hT1 | ⟨_,rfl⟩
   ·have:=(List.getElem?_eq_some_iff.1 hT1).1
    have:=H3.out
    omega
   ·refine ⟨HST.out,owns_move HO2.out λ k e=>?_⟩
    obtain ⟨_,_,cur,hc⟩:=owns_lt HO2.out e
    exact hmv k cur hc
 ·intro S' hS' k e
  rcases List.mem_append.1 hS' with h | h
  ·refine .inl ⟨H7.out S' h k e,λ e'=>?_⟩
   obtain ⟨i,hi⟩:=List.getElem?_of_mem h
   obtain ⟨T',hT'⟩:∃ T',Ts[i]?=some T':=⟨_,List.getElem?_eq_getElem (by rw [← H3.out]; exact (List.getElem?_eq_some_iff.1 hi).1)⟩
   obtain ⟨_,_,cur,hc⟩:=owns_lt (H4.out i S' T' hi hT').2 e
   obtain ⟨_,_,cur',hc'⟩:=owns_lt H2.out e'
   rw [hc] at hc'
   simp only [Option.some.injEq,Obj.cells.injEq] at hc'
   exact absurd hc'.2.1 (by decide)
  ·rw [List.mem_singleton] at h; subst h; exact .inr (.inl e)
 ·rintro k (⟨hF,hv⟩ | e | e)
  ·obtain ⟨hb,cs,T',hc⟩:=H8.out k hF
   by_cases hkl:k=lb
   ·subst hkl; exact ⟨hb,_,_,hb1.set _⟩
   ·have hk:=(Array.getElem?_eq_some_iff.1 hc).1
    have h2:=HBK.out k hk λ e'=>HNF.out _ e' hF
    exact ⟨hb,cs,T',(hkeep k (by omega) hkl hv).trans (h2.trans hc)⟩
  ·obtain ⟨hb,_,cur,hc⟩:=owns_lt HO2.out e
   exact ⟨hb,_,_,(hmv k cur hc).trans hc⟩
  ·obtain ⟨hb,_,cur,hc⟩:=owns_lt hown5 e
   exact ⟨hb,_,_,hc⟩
 ·rintro k (⟨hF,_⟩ | e | e)
  ·exact .inl hF
  ·exact .inr (.inl e)
  ·rcases hat' with h | h
   ·exact .inl (H6.out k (h▸e))
   ·rw [h] at e; cases e; exact .inr (.inr (by omega))
 ·have hsz4:(w1.setCell ⟨lb,0,none⟩ (.slice p' (Ss.length+1) c')).heap.size=w1.heap.size:=by simp
  refine ⟨?_,?_,?_,?_,?_⟩
  ·have:=(Below.setCell (Below.refl lb w1) (Nat.le_refl _) (Value.slice p' (Ss.length+1) c') (p:=⟨lb,0,none⟩)).os
   exact this.trans (hgrow'.os.trans (hal2.os.trans HFX.out.1))
  ·have:=(Below.setCell (Below.refl lb w1) (Nat.le_refl _) (Value.slice p' (Ss.length+1) c') (p:=⟨lb,0,none⟩)).tape
   exact this.trans (hgrow'.tape.trans (hal2.tape.trans HFX.out.2.1))
  ·have:=(Below.setCell (Below.refl lb w1) (Nat.le_refl _) (Value.slice p' (Ss.length+1) c') (p:=⟨lb,0,none⟩)).output
   exact this.trans (hgrow'.output.trans (hal2.output.trans HFX.out.2.2.1))
  ·have:=hgrow'.size
   omega
  ·intro k hk hn
   have h2:=HBK.out k hk λ e=>hn (.inr e)
   exact (hkeep k (by omega) (λ e=>hn (.inl (e▸h5))) λ e=>hn (.inl (H6.out k e))).trans h2
end Go.Proofs.YtiinlplgloaanaaGreatDoor
/- Beside linkTask: names, the two chains of the region in which the task grows. -/
namespace Go.Proofs.YtiinlplgloaanaaGreatDoor
set_option linter.all false
open Go.RowKit
attribute [local go_sem] Oper.semAt_some
def RU:REnc Nat:=⟨5,1,λ n=>[.int .u8 n],λ _=>rfl,λ s u h=>by simp at h; subst h; rfl⟩
def namesL:List ByteArray:=[⟨#[115,113,117,97,114,101]⟩,⟨#[111,98,108,111,110,103]⟩,⟨#[104,97,108,102]⟩,⟨#[116,114,105,97,110,103,108,101]⟩,⟨#[98,101,110,116]⟩,⟨#[113,117,97,114,116,101,114]⟩,⟨#[103,114,101,97,116]⟩,⟨#[100,105,97,109,111,110,100]⟩]
def nameN (k:Nat):ByteArray:=namesL.getD (k % 8) ⟨#[]⟩
def shapeN (k:Nat):List Q:=(kindC (nameN k)).1
theorem names_ok (k:Nat):(kindC (nameN k)).2=0:=by
 have h:∀ i,i<8→(kindC (namesL.getD i ⟨#[]⟩)).2=0:=by decide +kernel
 exact h _ (Nat.mod_lt _ (by decide))
def namesA:Array Value:=(namesL.map Value.string).toArray
theorem names_get (k:Nat):namesA[k % 8]?=some (.string (nameN k)):=by
 have h:∀ i,i<8→namesA[i]?=some (.string (namesL.getD i ⟨#[]⟩)):=by
  intro i hi
  rcases (by omega:i=0∨i=1∨i=2∨i=3∨i=4∨i=5∨i=6∨i=7) with rfl | rfl | rfl | rfl | rfl | rfl | rfl | rfl <;> rfl
 exact h _ (Nat.mod_lt _ (by decide))
def numN (ks cs:List Nat):Nat:=min (min ks.length cs.length) 4
def linkT (g:List Q) (ks cs:List Nat):Tk:=⟨g,(ks.take (numN ks cs)).map shapeN,(cs.take (numN ks cs)).map λ c=>((c % 8:Nat):Int),[],[]⟩
def zeroTask:Array Value:=#[.slice none 0 0,.slice none 0 0,.slice none 0 0,.slice none 0 0,.slice none 0 0]
theorem sizeTask:(Tryz.prog.info? 34).map (·.size)=some 5:=by kernel_rfl
theorem lu_rem8 {P:Program} {next:Value→World→Prop} {o:Oper} {x:Operand} {T T2:TypeId} (hop:o.op=.binOp .rem T x (.const (.int .u8 8)) T2) {b:Act} {W:World} {c:Nat} (hx:b.eval x=.int .u8 c) (hn:next (.int .u8 (c % 8:Nat)) W):loudUpon P next ((execOp b.eval o).run P W):=by
 refine lu_value (W':=W) (v:=.int .u8 (c % 8:Nat)) ?_ hn
 unfold execOp
 simp only [hop,hx]
 have h1:(c:Int).tmod 8=c % 8:=Int.tmod_eq_emod_of_nonneg (by omega)
 simp [go_sem,h1]
theorem lu_conv8 {next:Value→World→Prop} {o:Oper} {x:Operand} (hop:o.op=.convert 5 3 x) {b:Act} {W:World} {c:Nat} (hx:b.eval x=.int .u8 c) (hc:c<256) (hn:next (.int .i64 c) W):loudUpon Tryz.prog next ((execOp b.eval o).run Tryz.prog W):=by
 refine lu_value (W':=W) (v:=.int .i64 c) ?_ hn
 unfold execOp
 simp only [hop,hx]
 have h1:IntKind.i64.wrap (c:Int)=c:=by rw [IntKind.wrap_i64]; omega
 simp [go_sem,h1]
def cvL (tb i n2:Nat) (c2:Addr) (cc:Nat) (u vk vc:Value) (c:Nat):Nat→Option Value
 | 0=>some (.pointer (some ⟨tb,1,none⟩))
 | 1=>some vk
 | 2=>some u
 | 5=>some (.pointer (some ⟨tb,2,none⟩))
 | 6=>some vc
 | 7=>some (.slice (some c2) n2 cc)
 | 8=>some (.int .i64 i)
 | 9=>some (.pointer (some (c2.add i)))
 | 10=>some (.int .u8 c)
 | 11=>some (.int .u8 (c % 8:Nat))
 | 12=>some (.int .i64 (c % 8:Nat))
 | 15=>some (.pointer (some ⟨tb,1,none⟩))
 | 17=>some (.pointer (some ⟨tb,2,none⟩))
 | _=>none
theorem index_u8 (W:World) (a:Addr) {i n c:Nat} (hi:i<n):(Instr.indexAt 37 (.slice (some a) n c) (.int .i64 i)).run Tryz.prog W=.ok (.pointer (some (a.add i))) W:=by
 have h1:(0:Int)≤i∧(i:Int)<n:=by omega
 simp [go_sem,h1]
structure LkC (w:World) (tb nb:Nat) (vg:Value) (us:List Value) (ls:List (List Q)) (g:List Q) (W:World):Prop where
 names:W.heap[nb]?=some (.cells namesA 9 (0,0))
 zero:W.heap[w.heap.size]?=some (.cells zeroTask 34 (0,0))
 ground:OwnQ W w.heap.size vg g
 each:∀ (i:Nat) (x:Value) (m:List Q),us[i]?=some x→ls[i]?=some m→OwnQ W w.heap.size x m
 below:Below w.heap.size w W
theorem LkC.move {w W W':World} {tb nb:Nat} {vg:Value} {us:List Value} {ls:List (List Q)} {g:List Q} (h:LkC w tb nb vg us ls g W) (ht:w.heap.size≠tb)
  (e:∀ (k:Nat) (cs:Array Value) (T:TypeId),(T=9∨T=56∨(T=34∧k≠tb))→W.heap[k]?=some (.cells cs T (0,0))→W'.heap[k]?=W.heap[k]?) (hb:Below w.heap.size w W'):LkC w tb nb vg us ls g W':=by
 have hq:∀ x m,OwnQ W w.heap.size x m→OwnQ W' w.heap.size x m:=λ x m hx=>owns_move hx λ k hk=>by
  obtain ⟨_,_,cs,hc⟩:=owns_lt hx hk
  exact e k cs _ (.inr (.inl rfl)) hc
 exact ⟨(e _ _ _ (.inl rfl) h.names).trans h.names,(e _ _ _ (.inr (.inr ⟨rfl,ht⟩)) h.zero).trans h.zero,hq _ _ h.ground,λ i x m hx hm=>hq _ _ (h.each i x m hx hm),hb⟩
def tkA (vg y1 y2:Value):Array Value:=#[vg,y1,y2,.slice none 0 0,.slice none 0 0]
structure stL (w:World) (tb nb:Nat) (vg vk vc u:Value) (us:List Value) (ls:List (List Q)) (l:List Q) (g:List Q) (cs:List Int) (cn:Nat) (n m:Nat) (v:Nat→Value) (W:World):Prop where
 cm:LkC w tb nb vg (us++[u]) (ls++[l]) g W
 tk:W.heap[tb]?=some (.cells (tkA vg (if n≤2 then vk else v 4) (if m≤2 then vc else v 14)) 34 (0,0))
 ne:w.heap.size<tb
 A0:n≤1→W.ownsRow w.heap.size 22 1 vk us.length us
 A1:n=1→∃ gn,v 3=.slice (some ⟨gn,0,none⟩) 1 1∧W.heap[gn]?=some (.cells ([u]:List Value).toArray 22 (0,0))
 A2:2≤n→W.ownsRow w.heap.size 22 1 (v 4) (us.length+1) (us++[u])
 B0:m≤1→RI.Own W w.heap.size vc cs
 B1:m=1→∃ gn,v 13=.slice (some ⟨gn,0,none⟩) 1 1∧W.heap[gn]?=some (.cells ([.int .i64 cn]:List Value).toArray 3 (0,0))
 B2:2≤m→RI.Own W w.heap.size (v 14) (cs++[(cn:Int)])
section
variable {w W W':World} {tb nb:Nat} {vg vk vc u:Value} {us:List Value} {ls:List (List Q)} {l g:List Q} {cs:List Int} {cn n m:Nat} {v:Nat→Value}
theorem stL.a0 (h:stL w tb nb vg vk vc u us ls l g cs cn 1 m v W):W.ownsRow w.heap.size 22 1 vk us.length us:=h.A0 (Nat.le_refl _)
theorem stL.a1 (h:stL w tb nb vg vk vc u us ls l g cs cn 1 m v W):∃ gn,v 3=.slice (some ⟨gn,0,none⟩) 1 1∧W.heap[gn]?=some (.cells ([u]:List Value).toArray 22 (0,0)):=h.A1 rfl
theorem stL.a2 (h:stL w tb nb vg vk vc u us ls l g cs cn 2 m v W):W.ownsRow w.heap.size 22 1 (v 4) (us.length+1) (us++[u]):=h.A2 (Nat.le_refl _)
theorem stL.b0 (h:stL w tb nb vg vk vc u us ls l g cs cn n 1 v W):RI.Own W w.heap.size vc cs:=h.B0 (Nat.le_refl _)
theorem stL.b1 (h:stL w tb nb vg vk vc u us ls l g cs cn n 1 v W):∃ gn,v 13=.slice (some ⟨gn,0,none⟩) 1 1∧W.heap[gn]?=some (.cells ([.int .i64 cn]:List Value).toArray 3 (0,0)):=h.B1 rfl
theorem stL.b2 (h:stL w tb nb vg vk vc u us ls l g cs cn n 2 v W):RI.Own W w.heap.size (v 14) (cs++[(cn:Int)]):=h.B2 (Nat.le_refl _)
theorem stL.task2 (h:stL w tb nb vg vk vc u us ls l g cs cn n m v W) (hn:n≤2):∃ y2,W.heap[tb]?=some (.cells (tkA vg vk y2) 34 (0,0)):=⟨_,by have:=h.tk; rwa [if_pos hn] at this⟩
theorem stL.task1 (h:stL w tb nb vg vk vc u us ls l g cs cn n m v W) (hm:m≤2):∃ y1,W.heap[tb]?=some (.cells (tkA vg y1 vc) 34 (0,0)):=⟨_,by have:=h.tk; rwa [if_pos hm] at this⟩
theorem stL.vals (h:stL w tb nb vg vk vc u us ls l g cs cn n m v W) {v':Nat→Value} (e:∀ i,(i∈[3,4,16]∨i∈[13,14,18])→v i=v' i):stL w tb nb vg vk vc u us ls l g cs cn n m v' W:=by
 have h3:=e 3 (.inl (by decide))
 have h4:=e 4 (.inl (by decide))
 have h13:=e 13 (.inr (by decide))
 have h14:=e 14 (.inr (by decide))
 exact ⟨h.cm,h4▸h14▸h.tk,h.ne,h.A0,λ hn=>h3▸h.A1 hn,λ hn=>h4▸h.A2 hn,h.B0,λ hm=>h13▸h.B1 hm,λ hm=>h14▸h.B2 hm⟩
theorem stL.keep (h:stL w tb nb vg vk vc u us ls l g cs cn n m v W) (e:Below W.heap.size W W'):stL w tb nb vg vk vc u us ls l g cs cn n m v W':=by
 have hk:∀ (k:Nat) (o:Obj),W.heap[k]?=some o→W'.heap[k]?=some o:=λ k o ho=>(e.block k (Array.getElem?_eq_some_iff.1 ho).1).trans ho
 refine ⟨h.cm.move (by have:=h.ne; omega) (λ k cs T _ hc=>(hk k _ hc).trans hc.symm) (h.cm.below.trans (e.mono h.cm.below.size)),hk _ _ h.tk,h.ne,λ hn=>owns_below (h.A0 hn) e,λ hn=>?_,λ hn=>owns_below (h.A2 hn) e,λ hm=>owns_below (h.B0 hm) e,λ hm=>?_,λ hm=>owns_below (h.B2 hm) e⟩
 ·obtain ⟨gn,h1,h2⟩:=h.A1 hn; exact ⟨gn,h1,hk _ _ h2⟩
 ·obtain ⟨gn,h1,h2⟩:=h.B1 hm; exact ⟨gn,h1,hk _ _ h2⟩
theorem stL.buildA (h:stL w tb nb vg vk vc u us ls l g cs cn 0 m v W):stL w tb nb vg vk vc u us ls l g cs cn (0+1) m (λ j=>if j=3 then .slice (some ⟨W.heap.size,0,none⟩) 1 1 else v j) (W.alloc (.cells ([u]:List Value).toArray 22)):=by
 have h':=h.keep ((Below.refl _ W).alloc (Nat.le_refl _) (.cells ([u]:List Value).toArray 22))
 exact ⟨h'.cm,h'.tk,h'.ne,λ _=>h'.A0 (by omega),λ _=>⟨W.heap.size,rfl,World.alloc_heap_new W _⟩,λ hn=>absurd hn (by omega),h'.B0,h'.B1,h'.B2⟩
theorem stL.buildB (h:stL w tb nb vg vk vc u us ls l g cs cn n 0 v W):stL w tb nb vg vk vc u us ls l g cs cn n (0+1) (λ j=>if j=13 then .slice (some ⟨W.heap.size,0,none⟩) 1 1 else v j) (W.alloc (.cells ([.int .i64 cn]:List Value).toArray 3)):=by
 have h':=h.keep ((Below.refl _ W).alloc (Nat.le_refl _) (.cells ([.int .i64 cn]:List Value).toArray 3))
 exact ⟨h'.cm,h'.tk,h'.ne,h'.A0,h'.A1,h'.A2,λ _=>h'.B0 (by omega),λ _=>⟨W.heap.size,rfl,World.alloc_heap_new W _⟩,λ hn=>absurd hn (by omega)⟩
theorem grown_type {T0:TypeId} {x:Value} {n0 k:Nat} {xs:List Value} {size base:Nat} (ho:W.ownsRow base T0 size x n0 xs) (hg:W.grownBy W' x.ownBlock) {cs:Array Value} {T:TypeId} (hT:T≠T0) (hc:W.heap[k]?=some (.cells cs T (0,0))):W'.heap[k]?=W.heap[k]? :=
 hg.block k (Array.getElem?_eq_some_iff.1 hc).1 λ e=>by
  obtain ⟨_,_,cs2,hc2⟩:=owns_lt ho e.symm
  rw [hc] at hc2
  simp only [Option.some.injEq,Obj.cells.injEq] at hc2
  exact hT hc2.2.1
theorem stL.appendA {x:Value} (h:stL w tb nb vg vk vc u us ls l g cs cn 1 m v W) (hg:W.grownBy W' vk.ownBlock) (ho:W'.ownsRow w.heap.size 22 1 x (us.length+1) (us++[u])):stL w tb nb vg vk vc u us ls l g cs cn (1+1) m (λ j=>if j=4 then x else v j) W':=by
 have hk:∀ (k:Nat) (cs:Array Value) (T:TypeId),T≠22→W.heap[k]?=some (.cells cs T (0,0))→W'.heap[k]?=W.heap[k]?:=λ k cs T hT hc=>grown_type h.a0 hg hT hc
 have hB:Below w.heap.size w W':=h.cm.below.grown hg h.cm.below.size λ b e=>(owns_lt h.a0 e).1
 refine ⟨h.cm.move (by have:=h.ne; omega) (λ k cs T hT hc=>hk k cs T (by rcases hT with rfl | rfl | ⟨rfl,_⟩ <;> decide) hc) hB,(hk _ _ _ (by decide) h.tk).trans h.tk,h.ne,λ hn=>absurd hn (by omega),λ hn=>absurd hn (by omega),λ _=>ho,λ hm=>?_,λ hm=>?_,λ hm=>?_⟩
 ·exact owns_move (h.B0 hm) λ k e=>by obtain ⟨_,_,cs,hc⟩:=owns_lt (h.B0 hm) e; exact hk k cs _ (by decide) hc
 ·obtain ⟨gn,h1,h2⟩:=h.B1 hm; exact ⟨gn,h1,(hk _ _ _ (by decide) h2).trans h2⟩
 ·exact owns_move (h.B2 hm) λ k e=>by obtain ⟨_,_,cs,hc⟩:=owns_lt (h.B2 hm) e; exact hk k cs _ (by decide) hc
theorem stL.appendB {x:Value} (h:stL w tb nb vg vk vc u us ls l g cs cn n 1 v W) (hg:W.grownBy W' vc.ownBlock) (ho:RI.Own W' w.heap.size x (cs++[(cn:Int)])):stL w tb nb vg vk vc u us ls l g cs cn n (1+1) (λ j=>if j=14 then x else v j) W':=by
 have hk:∀ (k:Nat) (cs:Array Value) (T:TypeId),T≠3→W.heap[k]?=some (.cells cs T (0,0))→W'.heap[k]?=W.heap[k]?:=λ k cs T hT hc=>grown_type h.b0 hg hT hc
 have hB:Below w.heap.size w W':=h.cm.below.grown hg h.cm.below.size λ b e=>(owns_lt h.b0 e).1
 refine ⟨h.cm.move (by have:=h.ne; omega) (λ k cs T hT hc=>hk k cs T (by rcases hT with rfl | rfl | ⟨rfl,_⟩ <;> decide) hc) hB,(hk _ _ _ (by decide) h.tk).trans h.tk,h.ne,λ hn=>?_,λ hn=>?_,λ hn=>?_,λ hm=>absurd hm (by omega),λ hm=>absurd hm (by omega),λ _=>ho⟩
 ·exact owns_move (h.A0 hn) λ k e=>by obtain ⟨_,_,cs,hc⟩:=owns_lt (h.A0 hn) e; exact hk k cs _ (by decide) hc
 ·obtain ⟨gn,h1,h2⟩:=h.A1 hn; exact ⟨gn,h1,(hk _ _ _ (by decide) h2).trans h2⟩
 ·exact owns_move (h.A2 hn) λ k e=>by obtain ⟨_,_,cs,hc⟩:=owns_lt (h.A2 hn) e; exact hk k cs _ (by decide) hc
theorem stL.storeA (h:stL w tb nb vg vk vc u us ls l g cs cn 2 m v W):stL w tb nb vg vk vc u us ls l g cs cn (2+1) m (λ j=>if j=16 then undef else v j) (W.setCell ⟨tb,1,none⟩ (v 4)):=by
 have hk:∀ (k:Nat) (cs:Array Value) (T:TypeId),(T≠34∨k≠tb)→W.heap[k]?=some (.cells cs T (0,0))→(W.setCell ⟨tb,1,none⟩ (v 4)).heap[k]?=W.heap[k]?:=λ k cs T hT hc=>heap_setCell_other _ _ _ _ λ e=>by
  simp only at e
  subst e
  rw [h.tk] at hc
  simp only [Option.some.injEq,Obj.cells.injEq] at hc
  exact hT.elim (λ hT=>hT hc.2.1.symm) λ hT=>hT rfl
 have htk:(W.setCell ⟨tb,1,none⟩ (v 4)).heap[tb]?=some (.cells (tkA vg (v 4) (if m≤2 then vc else v 14)) 34 (0,0)):=heap_setCell_same _ _ _ _ _ _ h.tk
 refine ⟨h.cm.move (by have:=h.ne; omega) (λ k cs T hT hc=>hk k cs T (by rcases hT with rfl | rfl | ⟨rfl,hT⟩; exact .inl (by decide); exact .inl (by decide); exact .inr hT) hc) (h.cm.below.setCell (by have:=h.ne; simp only; omega) _),htk,h.ne,λ hn=>absurd hn (by omega),λ hn=>absurd hn (by omega),λ _=>?_,λ hm=>?_,λ hm=>?_,λ hm=>?_⟩
 ·exact owns_move h.a2 λ k e=>by obtain ⟨_,_,cs,hc⟩:=owns_lt h.a2 e; exact hk k cs _ (.inl (by decide)) hc
 ·exact owns_move (h.B0 hm) λ k e=>by obtain ⟨_,_,cs,hc⟩:=owns_lt (h.B0 hm) e; exact hk k cs _ (.inl (by decide)) hc
 ·obtain ⟨gn,h1,h2⟩:=h.B1 hm; exact ⟨gn,h1,(hk _ _ _ (.inl (by decide)) h2).trans h2⟩
 ·exact owns_move (h.B2 hm) λ k e=>by obtain ⟨_,_,cs,hc⟩:=owns_lt (h.B2 hm) e; exact hk k cs _ (.inl (by decide)) hc
theorem stL.storeB (h:stL w tb nb vg vk vc u us ls l g cs cn n 2 v W):stL w tb nb vg vk vc u us ls l g cs cn n (2+1) (λ j=>if j=18 then undef else v j) (W.setCell ⟨tb,2,none⟩ (v 14)):=by
 have hk:∀ (k:Nat) (cs:Array Value) (T:TypeId),(T≠34∨k≠tb)→W.heap[k]?=some (.cells cs T (0,0))→(W.setCell ⟨tb,2,none⟩ (v 14)).heap[k]?=W.heap[k]?:=λ k cs T hT hc=>heap_setCell_other _ _ _ _ λ e=>by
  simp only at e
  subst e
  rw [h.tk] at hc
  simp only [Option.some.injEq,Obj.cells.injEq] at hc
  exact hT.elim (λ hT=>hT hc.2.1.symm) λ hT=>hT rfl
 have htk:(W.setCell ⟨tb,2,none⟩ (v 14)).heap[tb]?=some (.cells (tkA vg (if n≤2 then vk else v 4) (v 14)) 34 (0,0)):=heap_setCell_same _ _ _ _ _ _ h.tk
 refine ⟨h.cm.move (by have:=h.ne; omega) (λ k cs T hT hc=>hk k cs T (by rcases hT with rfl | rfl | ⟨rfl,hT⟩; exact .inl (by decide); exact .inl (by decide); exact .inr hT) hc) (h.cm.below.setCell (by have:=h.ne; simp only; omega) _),htk,h.ne,λ hn=>?_,λ hn=>?_,λ hn=>?_,λ hm=>absurd hm (by omega),λ hm=>absurd hm (by omega),λ _=>?_⟩
 ·exact owns_move (h.A0 hn) λ k e=>by obtain ⟨_,_,cs,hc⟩:=owns_lt (h.A0 hn) e; exact hk k cs _ (.inl (by decide)) hc
 ·obtain ⟨gn,h1,h2⟩:=h.A1 hn; exact ⟨gn,h1,(hk _ _ _ (.inl (by decide)) h2).trans h2⟩
 ·exact owns_move (h.A2 hn) λ k e=>by obtain ⟨_,_,cs,hc⟩:=owns_lt (h.A2 hn) e; exact hk k cs _ (.inl (by decide)) hc
 ·exact owns_move h.b2 λ k e=>by obtain ⟨_,_,cs,hc⟩:=owns_lt h.b2 e; exact hk k cs _ (.inl (by decide)) hc
end
theorem wpList_append_is {P:Program} {w:World} {ops:Array Oper} {rest:List Oper} {o:Oper} {a:Act} {Q:Exit→Act→World→Prop} (hgd:o.guard=none) (s x:Operand) (t:TypeId)
  (ho:o.op=.call { callee:=.builtin .append,args:=#[s,x],argTypes:=#[t,t] }) {u y v':Value} {w':World} (hs:a.eval s=u) (hx:a.eval x=y) (hr:(Builtin.append_ #[t,t] o.type #[u,y]).run P w=.ok v' w') (h:wpList P ops Q rest (a.put o.dst v') w') :
  wpList P ops Q (o :: rest) a w:=by
 refine wpList_plain hgd λ K hK=>?_
 unfold Oper.wp execOp
 simp only [ho,resolve,invoke,builtin,Sem.run_bind,Sem.run_pure,Result.andThen_ok,List.map_toArray,List.map_cons,List.map_nil,hs,hx,hr]
 exact hK _ _ h
theorem run_append_nil (W:World) (b:Nat):(Builtin.append_ #[22,22] 22 #[.slice (some ⟨b,0,none⟩) 0 0,.slice none 0 0]).run Tryz.prog W=.ok (.slice (some ⟨b,0,none⟩) 0 0) W:=by
 simp [Builtin.append_,go_sem]
end Go.Proofs.YtiinlplgloaanaaGreatDoor
/- Arguments of the layers' laws opened: rows of bytes, of numbers, of bricks, of edges; kinds and counts; a task. -/
namespace Go.Proofs.YtiinlplgloaanaaGreatDoor
set_option linter.all false
open Go.RowKit Go.ChangeShapes Go.WideShapes Go.Deep Go.Joins
set_option maxRecDepth 100000 in
theorem open_rows {α:Type} [Inhabited α] (R:REnc α) (hn:0<R.n) {T:TypeId} (hT:Tryz.prog.underlying T=some (.slice R.ty)) (hcells:Tryz.prog.cellsOf R.ty=R.n) {H:Type} {enc:TypeId × Value→H} {w:World} {spare:Nat→Bool} {held:Bool} {fuel:Nat} {v:Value} {x:DataW H × List MemPlace} {good:α→Prop}
  (hel:∀ (fuel':Nat) (cs:List Value) (y:DataW H × List MemPlace),cs.length=R.n→DataW.trod enc Tryz.prog w 0 spare held fuel' R.ty cs=some y→∃ r:α,cs=R.vals r∧good r)
  (h:DataW.trod enc Tryz.prog w 0 spare held fuel T [v]=some x):∃ l:List α,R.Has w v l∧∀ r∈l,good r:=by
 rcases open_slice hT h with ⟨h0,_⟩ | ⟨a,len,cap,m,n,D,Pl,h0,_,hl,hm,hmm,_,hx⟩
 ·simp only [List.cons.injEq,and_true] at h0
  exact ⟨[],.inl ⟨h0,rfl⟩,λ r hr=>by cases hr⟩
 ·simp only [List.cons.injEq,and_true] at h0
  subst h0
  have hlm:len≤m:=by rw [hmm]; split <;> omega
  have each:∀ i,i<m→∃ q:α,good q∧∀ (j:Nat) (u:Value),(R.vals q)[j]?=some u→w.cell? (a.add (i*R.n+j))=some u:=by
   intro i hi
   obtain ⟨cs',h1,h2⟩:=hx i hi
   rw [hcells] at h1
   obtain ⟨_,hlen,hcell⟩:=World.cells?_some h1
   obtain ⟨r,rfl,hg⟩:=hel _ _ _ hlen h2
   refine ⟨r,hg,λ j u hu=>?_⟩
   have hj:j<R.n:=by rw [← R.len r]; exact (List.getElem?_eq_some_iff.1 hu).1
   have c0:=hcell j hj
   rw [add_add] at c0
   rw [c0,← hu]
  obtain ⟨q,hq⟩:=choose_lt each
  refine ⟨(List.range len).map q,.inr ⟨a,cap,by simp,by simpa using hl,hm,⟨λ hne=>?_,λ i r hr j u hu=>?_⟩⟩,λ r hr=>?_⟩
  ·have h0:0<len:=by
    rcases Nat.eq_zero_or_pos len with h | h
    ·subst h; exact absurd rfl hne
    ·exact h
   have hlv:0<(R.vals (q 0)).length:=by rw [R.len]; exact hn
   have c0:=(hq 0 (by omega)).2 0 _ (List.getElem?_eq_getElem hlv)
   unfold World.cell? at c0
   rcases Nat.lt_or_ge (a.add (0*R.n+0)).block w.heap.size with h | h
   ·rwa [block_add] at h
   ·rw [Array.getElem?_eq_none h] at c0; cases c0
  ·have hi:i<len:=by have:=(List.getElem?_eq_some_iff.1 hr).1; simpa using this
   rw [List.getElem?_map,List.getElem?_range hi] at hr
   simp only [Option.map_some,Option.some.injEq] at hr
   subst hr
   exact (hq i (by omega)).2 j u hu
  ·obtain ⟨i,hi,rfl⟩:=List.mem_map.1 hr
   have:=List.mem_range.1 hi
   exact (hq i (by omega)).1
instance :Inhabited Ld:=⟨⟨0,false,0,0,0⟩⟩
instance :Inhabited E:=⟨⟨0,0,0⟩⟩
theorem cellsU8v:Tryz.prog.cellsOf 5=1:=by kernel_rfl
set_option maxRecDepth 100000 in
theorem open_bytes8 {H:Type} {enc:TypeId × Value→H} {w:World} {spare:Nat→Bool} {held:Bool} {fuel:Nat} {v:Value} {x:DataW H × List MemPlace} (h:DataW.trod enc Tryz.prog w 0 spare held fuel 37 [v]=some x):∃ l:List Nat,RU.Has w v l∧∀ r∈l,r<256:=by
 refine open_rows RU (by decide) Tryz.underlying37 cellsU8v (λ fuel' cs y hl hy=>?_) h
 match cs,hl with
 | [y0],_ =>
  obtain ⟨n0,e0,_,w0⟩:=DataW.trod_int Tryz.underlying5 hy
  simp only [List.cons.injEq,and_true] at e0
  have b0:0≤n0∧n0<256:=by
   have h:IntKind.u8.min≤n0∧n0≤IntKind.u8.max:=by simpa [Lit.wf] using w0
   have h1:(0:Int)≤n0:=h.1
   have h2:n0≤255:=h.2
   omega
  exact ⟨n0.toNat,by rw [e0]; show _=[Value.int .u8 ((n0.toNat:Nat):Int)]; rw [Int.toNat_of_nonneg b0.1],by omega⟩
set_option maxRecDepth 100000 in
theorem arg_bytes8 {H:Type} {enc:TypeId × Value→H} {W:World} {base:Nat} {v:Value} {d:DataW H} {p:List MemPlace} (hval:Value.okWide Tryz.prog W .any base 37 v) (h:DataW.Trod enc Tryz.prog W 0 (λ _=>true) true 37 v d p):∃ l:List Nat,RU.Has W v l∧∀ r∈l,r<256:=by
 obtain ⟨a0,len0,cap0,rfl⟩:=okWide_slice Tryz.underlying37 hval
 obtain ⟨fuel,hf⟩:=h
 exact open_bytes8 hf
end Go.Proofs.YtiinlplgloaanaaGreatDoor
/- Plain maths of chapter 7: the edges of a ground, as the board numbers them; valid tasks. -/
namespace Go.Proofs.YtiinlplgloaanaaGreatDoor
set_option linter.all false
open Go.RowKit
def addEd (L:List E) (e:E):List E:=if e∈L then L else L++[e]
def edgesL (g:List Q):List E:=(g.flatMap λ q=>borderE [q]).foldl addEd []
theorem addEd_one (L:List E) (x e:E):e∈addEd L x↔e∈L∨e=x:=by
 unfold addEd
 split
 ·rename_i h
  exact ⟨.inl,λ h'=>h'.elim id λ e'=>e'▸h⟩
 ·simp
theorem addEd_mem:∀ (l L:List E) (e:E),e∈l.foldl addEd L↔e∈L∨e∈l
 | [],L,e=>by simp
 | x :: l,L,e=>by rw [List.foldl_cons,addEd_mem l,addEd_one,List.mem_cons,or_assoc]
theorem addEd_nodup:∀ (l L:List E),L.Nodup→(l.foldl addEd L).Nodup
 | [],L,h=>h
 | x :: l,L,h=>by
  rw [List.foldl_cons]
  refine addEd_nodup l _ ?_
  unfold addEd
  split
  ·exact h
  ·rename_i hx
   rw [List.nodup_append]
   exact ⟨h,by simp,λ a ha b hb e=>hx (by rw [List.mem_singleton] at hb; rw [← hb,← e]; exact ha)⟩
theorem addEd_len:∀ (l L:List E),(l.foldl addEd L).length≤L.length+l.length
 | [],L=>by simp
 | x :: l,L=>by
  rw [List.foldl_cons]
  have h1:=addEd_len l (addEd L x)
  have h2:(addEd L x).length≤L.length+1:=by unfold addEd; split <;> simp
  rw [List.length_cons]; omega
theorem border_one {q:Q} (hq:inQ q) (e:E):e∈borderE [q]↔e∈edgesQ q:=by
 have h:=pick_mem (l:=[q]) (by simpa using hq) (p:=oneP) (by rfl) e
 unfold borderE
 rw [h]
 unfold whoE oneP
 by_cases he:e∈edgesQ q <;> simp [he]
theorem border_sub {l:List Q} (hq:∀ q∈l,inQ q) {e:E} (h:e∈borderE l):∃ q∈l,e∈edgesQ q:=by
 have h1:=(pick_mem hq (p:=oneP) (by rfl) e).1 h
 unfold oneP at h1
 have h2:=of_decide_eq_true h1
 obtain ⟨q,hq'⟩:=List.exists_mem_of_length_pos (l:=whoE l e) (by omega)
 obtain ⟨a,b⟩:=List.mem_filter.1 hq'
 exact ⟨q,a,by simpa using b⟩
theorem edgesL_mem {g:List Q} (hq:∀ q∈g,inQ q) (e:E):e∈edgesL g↔∃ q∈g,e∈edgesQ q:=by
 unfold edgesL
 rw [addEd_mem,List.mem_flatMap]
 constructor
 ·rintro (h | ⟨q,h1,h2⟩)
  ·cases h
  ·exact ⟨q,h1,(border_one (hq q h1) e).1 h2⟩
 ·rintro ⟨q,h1,h2⟩
  exact .inr ⟨q,h1,(border_one (hq q h1) e).2 h2⟩
theorem edgesL_nodup (g:List Q):(edgesL g).Nodup:=addEd_nodup _ _ List.nodup_nil
theorem edgesL_len {g:List Q} (hq:∀ q∈g,inQ q):(edgesL g).length≤3*g.length:=by
 have h1:=addEd_len (g.flatMap λ q=>borderE [q]) []
 have h2:∀ l:List Q,(∀ q∈l,inQ q)→(l.flatMap λ q=>borderE [q]).length≤3*l.length:=by
  intro l
  induction l with
  | nil=>simp
  | cons q l ih =>
   intro hl
   rw [List.flatMap_cons,List.length_append,List.length_cons]
   have h3:=border_le (l:=[q]) (by simpa using hl q (by simp))
   have h4:=ih λ r hr=>hl r (List.mem_cons_of_mem _ hr)
   simp only [List.length_cons,List.length_nil] at h3
   omega
 have h3:=h2 g hq
 unfold edgesL
 simp only [List.length_nil] at h1
 omega
structure OkT (t:Tk):Prop where
 ground:checkN t.ground=0
 g64:t.ground.length≤64
 kinds:∀ s∈t.kinds,checkN s=0
 kind16:∀ s∈t.kinds,s.length≤16
 klen:1≤t.kinds.length∧t.kinds.length≤8
 clen:t.counts.length=t.kinds.length
 cnt:∀ c∈t.counts,0≤c∧c≤16
 csum:t.counts.sum≤16
 fixed:t.fixed.length≤16
 blen:t.below.length≤400
 bin:∀ e∈t.below,(0≤e.x∧e.x≤16)∧(0≤e.y∧e.y≤16)∧(0≤e.k∧e.k≤5)
 bsort:t.below.Pairwise ltE
structure TkOk (t:Tk) (L:List E):Prop where
 g64:t.ground.length≤64
 l192:L.length≤192
 cnt:∀ (k:Nat) (c:Int),t.counts[k]?=some c→0≤c∧c≤16
 clen:t.counts.length=t.kinds.length
 k8:t.kinds.length≤8
 inG:∀ p∈(piecesT t).flatten,∀ q∈p.qs,q∈t.ground
 inL:∀ p∈(piecesT t).flatten,∀ e∈borderE p.qs,e∈L
 kind:∀ (k:Nat) (l:List Pc),(piecesT t)[k]?=some l→∀ p∈l,p.ld.kind=k
 ne:∀ p∈(piecesT t).flatten,p.qs≠[]
theorem pieces_length (t:Tk):(piecesT t).length=t.kinds.length:=by simp [piecesT]
theorem pieces_get {t:Tk} {k:Nat} {s:List Q} (h:t.kinds[k]?=some s):(piecesT t)[k]?=some (piecesK t.ground k s):=by
 unfold piecesT
 rw [List.getElem?_map,List.getElem?_zipIdx,h]; simp
theorem tk_ok {t:Tk} (h:OkT t):TkOk t (edgesL t.ground):=by
 have hq:=(checkN_ok h.ground).1.1
 obtain ⟨p1,p2,p3⟩:=pieces_ok h.kinds h.clen
 refine ⟨h.g64,?_,λ k c hc=>h.cnt c (List.mem_of_getElem? hc),h.clen,h.klen.2,p3,λ p hp e he=>?_,λ k l hl p hp=>?_,p1⟩
 ·have:=edgesL_len hq
  have:=h.g64
  omega
 ·obtain ⟨q,h1,h2⟩:=border_sub (λ q hqq=>hq q (p3 p hp q hqq)) he
  exact (edgesL_mem hq e).2 ⟨q,p3 p hp q h1,h2⟩
 ·have hk:k<t.kinds.length:=by rw [← pieces_length]; exact (List.getElem?_eq_some_iff.1 hl).1
  rw [pieces_get (List.getElem?_eq_getElem hk)] at hl
  cases hl
  unfold piecesK at hp
  obtain ⟨pl,_,rfl⟩:=List.mem_map.1 hp
  rfl
end Go.Proofs.YtiinlplgloaanaaGreatDoor
