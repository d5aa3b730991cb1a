/- Beside Order: slices.Clone, slices.Grow and slices.Concat of numbers, make of bools, the closure. -/
import Derived.Test.YtiinlplgloaanaaGreatDoorZzLayerNever45
import Derived.Test.YtiinlplgloaanaaGreatDoorZzLayerNever46
import Derived.Shelf.Spec.SlicesGrow
set_option linter.all false
set_option maxRecDepth 100000
set_option maxHeartbeats 16000000
namespace Go.Proofs.YtiinlplgloaanaaGreatDoor
open Go.Proofs.Tryz Go.RowKit
attribute [local go_sem] Oper.semAt_some
structure KnT (w W:World) (tb:Nat) (g k c:Value) (us:List Value):Prop where
 task:W.heap[tb]?=some (.cells #[g,k,c,.slice none 0 0,.slice none 0 0] 34 (0,0))
 ground:OwnQ W w.heap.size g (qB 2 2)
 kinds:OwnQQ W w.heap.size k us [qB 2 1]
 counts:RI.Own W w.heap.size c [2]
 below:Below w.heap.size w W
 tbw:w.heap.size≤tb
theorem KnT.keep {w W W':World} {tb:Nat} {g k c:Value} {us:List Value} (h:KnT w W tb g k c us) (e:Below W.heap.size W W'):KnT w W' tb g k c us :=
 ⟨(e.block _ (ya.1 h.task).1).trans h.task,h.ground.below e,OwnQQ.below h.kinds e,qf h.counts e,h.below.trans (e.mono h.below.size),h.tbw⟩
theorem zbR {W:World} {base:Nat} {v:Value} {l:List Ld} (h:RL.Own W base v l) (hl:l≠[]):∃ g c,v=.slice (some ⟨g,0,none⟩) l.length c∧∀ j,j<l.length*5→W.cell? ⟨g,j,none⟩=(RL.cells l)[j]?:=by
 rcases h.2 with⟨_,h0⟩|⟨g,cap,cur,rfl,h1,h2,h3,h4,h5⟩
 ·exact absurd (yT.1 h0) hl
 exact⟨g,cap,rfl,λ j hj=>World.ownsRow.cellAt h j hj⟩
theorem qgG {w w2:World} {g k:Value} {z:Array Value} (hb:Below w.heap.size w w2) (hg:OwnQ w2 w.heap.size g (qB 2 2)) (hk:OwnQ w2 w.heap.size k (qB 2 1)) :
  KnT w ((((w2.alloc (.cells #[k] 22)).alloc (.cells #[.int .i64 2] 3)).alloc (.cells z 34)).setRow (w2.heap.size+1+1) #[g,.slice (some ⟨w2.heap.size,0,none⟩) 1 1,.slice (some ⟨w2.heap.size+1,0,none⟩) 1 1,.slice none 0 0,.slice none 0 0]) (w2.heap.size+1+1) g (.slice (some ⟨w2.heap.size,0,none⟩) 1 1) (.slice (some ⟨w2.heap.size+1,0,none⟩) 1 1) [k]:=by
 have hA0:(((w2.alloc (.cells #[k] 22)).alloc (.cells #[.int .i64 2] 3)).alloc (.cells z 34)).heap[w2.heap.size]?=some (.cells #[k] 22 (0,0)):=heapO _ (qU w2 _ _).1;have hA1:(((w2.alloc (.cells #[k] 22)).alloc (.cells #[.int .i64 2] 3)).alloc (.cells z 34)).heap[w2.heap.size+1]?=some (.cells #[.int .i64 2] 3 (0,0)):=heapO _ (qU w2 _ _).2.1;have hA2:=qa8 w2 (.cells #[k] 22) (.cells #[.int .i64 2] 3) (.cells z 34);have hA:Below w2.heap.size w2 (((w2.alloc (.cells #[k] 22)).alloc (.cells #[.int .i64 2] 3)).alloc (.cells z 34)):=(qU w2 _ _).2.2.alloc (qU w2 _ _).2.2.size _;revert hA0 hA1 hA2 hA;generalize (((w2.alloc (.cells #[k] 22)).alloc (.cells #[.int .i64 2] 3)).alloc (.cells z 34))=A;intro hA0 hA1 hA2 hA;have hB3:Below w2.heap.size w2 (A.setRow (w2.heap.size+1+1) #[g,.slice (some ⟨w2.heap.size,0,none⟩) 1 1,.slice (some ⟨w2.heap.size+1,0,none⟩) 1 1,.slice none 0 0,.slice none 0 0]):=zg hA (by omega) _;have hsz:=hb.size;refine⟨setRow_heap _ _ _ _ _ _ hA2,hg.below hB3,⟨⟨rfl,.inr ⟨w2.heap.size,1,#[k],rfl,hsz,(setRow_other _ _ _ _ (by omega)).trans hA0,ye _,by decide,rfl,rfl⟩⟩,rfl,λ i u l hu hl=>?_⟩,⟨rfl,.inr ⟨w2.heap.size+1,1,#[.int .i64 2],rfl,by omega,(setRow_other _ _ _ _ (by omega)).trans hA1,ye _,by decide,rfl,rfl⟩⟩,hb.trans (hB3.mono hsz),by omega⟩
 cases i with
 | zero =>
  simp only[List.getElem?_cons_zero,yo]at hu hl;subst hu hl;exact hk.below hB3
 | succ i=>simp at hu
theorem qgz {W:World} {base g n c:Nat} {l:List Ld} (h:RL.Own W base (.slice (some ⟨g,0,none⟩) n c) l) (h1:1≤l.length:=by decide):RL.Has W (.slice (some ⟨g,0,none⟩) 1 c) (l.take 1):=by
 have hl:(l.take 1).length=1:=by rw[Yf];omega
 rcases (REnc.Own.has (R:=RL) (l:=l) (show W.ownsRow base _ _ (.slice (some ⟨g,0,none⟩) n c) _ _ from h))with⟨he,_⟩|⟨a,cap,h1',h2,h3,h4⟩
 ·cases he
 simp only[yC,yo]at h1';obtain⟨rfl,_,rfl⟩:=h1';refine .inr ⟨_,c,by rw[hl],by rw[hl];omega,h3,λ _=>h4.lt (by rintro rfl;simp at h1),λ i x hx j u hu=>?_⟩;refine h4.at_ i x ?_ j u hu;rw[List.getElem?_take]at hx;split at hx
 ·exact hx
 cases hx
theorem qhD {W:World} {base g n c:Nat} {l:List Ld} (h:RL.Own W base (.slice (some ⟨g,0,none⟩) n c) l):l.length≤c:=by
 rcases h.2 with⟨he,_⟩|⟨g',cap,cur,hv,_,_,h3,_⟩
 ·cases he
 simp only[yC]at hv;obtain⟨_,_,rfl⟩:=hv;exact h3
theorem qd7 {P:Program} {C:World→Prop} {o:Oper} {a:Act} {K:Act→Prop} {x y:Operand} {T e:TypeId} {g n cap k s:Nat} (ho:o.op=.slice T x none (some y) none) (hx:a.eval x=.slice (some ⟨g,0,none⟩) n cap) (hy:a.eval y=.int .i64 (k:Int)) (hk:k≤cap)
  (ht0:P.underlying T=some (.slice e)) (hs0:∀ W,(sizeOf e).run P W=.ok s W) (hK:K (a.put o.dst (.slice (some ⟨g,0,none⟩) k cap))):o.quiet P a C K:=by
 have hel:P.elem T=e:=by simp[Program.elem,ht0]
 have ht:P.underlying T=some (.slice (P.elem T)):=by rw[hel];exact ht0
 have hs:∀ W,(sizeOf (P.elem T)).run P W=.ok s W:=λ W=>by rw[hel];exact hs0 W
 refine⟨.slice (some ⟨g,0,none⟩) k cap,λ w hc=>?_,hK⟩;unfold Oper.quietAt execOp;simp only[ho,Option.map_none,Option.map_some,yG,hx,hy];rw[run_sliceAt_slice w T _ _ _ _ ht,run_slice_h w T _ _ _ ht .i64 (k:Int) (by omega) (by omega),hs];simp only[yz,yH,Int.toNat_natCast,qfo];exact⟨rfl,rfl⟩
def knF (tb sz:Nat) (kv:Value):Nat→(Nat→Value)→World→Prop
 | 0,v,W=>OwnQ W sz (v 0) (qB 3 1)
 | 1,v,_=>v 1=.pointer (some ⟨tb,1,none⟩)
 | 2,v,_=>v 2=kv
 | 3,v,W=>RI.Own W sz (v 3) [2]
 | 4,v,_=>v 4=.agg #[v 0,v 2,v 3,.slice none 0 0,.slice none 0 0]
 | 5,v,_=>v 5=.tuple #[.int .i64 2,.int .i64 0]
 | 6,v,_=>v 6=.tuple #[.int .i64 2,.int .i64 0]
 | 7,v,_=>v 7=.int .i64 2
 | 8,v,_=>v 8=.int .i64 0
 | 9,v,_=>v 9=.int .i64 2
 | 10,v,_=>v 10=.int .i64 0
 | _,_,_=>True
def knR:Nat→List Nat
 | 4=>[0,2,3]
 | _=>[]
theorem qfG {tb sz:Nat} {kv:Value}:∀ i v v' W,(∀ j,(j=i∨j∈knR i)→v j=v' j)→knF tb sz kv i v W→knF tb sz kv i v' W:=by
 intro i v v' W h hF;have hi:=h i (.inl rfl)
 match i,h,hi,hF with
 | 0,_,hi,hF|1,_,hi,hF|2,_,hi,hF|3,_,hi,hF|5,_,hi,hF|6,_,hi,hF|7,_,hi,hF|8,_,hi,hF|9,_,hi,hF|10,_,hi,hF =>
  simp only[knF]at hF ⊢;rw[← hi];exact hF
 | 4,h,hi,hF =>
  simp only[knF]at hF ⊢;rw[← hi,← h 0 (.inr (by simp[knR])),← h 2 (.inr (by simp[knR])),← h 3 (.inr (by simp[knR]))];exact hF
 | n+11,_,_,_=>trivial
theorem qcK {tb sz:Nat} {kv:Value} {v:Nat→Value} {W W':World} (hB:Below W.heap.size W W'):∀ {i},knF tb sz kv i v W→knF tb sz kv i v W':=by
 intro i hF
 match i,hF with
 | 1,hF|2,hF|4,hF|5,hF|6,hF|7,hF|8,hF|9,hF|10,hF=>exact hF
 | 0,hF=>exact qf hF hB
 | 3,hF=>exact qf hF hB
 | n+11,_=>trivial
theorem zhO (w:World) (htb:TbAt w):Calls Tryz.prog 22 #[] w λ e w'=>e=.returned (.bool true)∧Below w.heap.size w w':=by
 have HTB:=yK htb;clear htb;have HC1:Hid (Calls Tryz.prog 63 #[.int .i64 2,.int .i64 2] w λ e w'=>∃ u,e=.returned u∧OwnQ w' w.heap.size u (qB 2 2)∧Below w.heap.size w w'):=yK (zbO 2 2 (by decide) (by decide) w);have HC2:Hid (∀ W,Calls Tryz.prog 63 #[.int .i64 2,.int .i64 1] W λ e w'=>∃ u,e=.returned u∧OwnQ w' W.heap.size u (qB 2 1)∧Below W.heap.size W w'):=yK λ W=>zbO 2 1 (by decide) (by decide) W;have HC3:Hid (∀ W,Calls Tryz.prog 63 #[.int .i64 3,.int .i64 1] W λ e w'=>∃ u,e=.returned u∧OwnQ w' W.heap.size u (qB 3 1)∧Below W.heap.size W w'):=yK λ W=>zbO 3 1 (by decide) (by decide) W;generalize hpo:(λ (e:Ending) (w':World)=>e=.returned (.bool true)∧Below w.heap.size w w')=Po;have HPO:=yK hpo;clear hpo;go_enter func22,ntmps22;go_wp2_with fail;refine HC1.out.mono ?_;rintro e w1 ⟨u1,rfl,hu1,hb1⟩;obtain⟨gp,gc,rfl⟩:=qg hu1;have HU1:=yK hu1;have HB1:=yK hb1;clear hu1 hb1 HC1;go_wp2_with fail;refine (HC2.out w1).mono ?_;rintro e w2 ⟨u2,rfl,hu2,hb2⟩;obtain⟨kp,kc,rfl⟩:=qg hu2;have HU2:=yK hu2;have HU1':=yK (HU1.out.below hb2);have HB2:=yK (HB1.out.trans (hb2.mono HB1.out.size));have HB1X:=yK HB1.out.size;clear hu2 hb2 HC2 HU1 HB1;go_upto_region 2 with (refine wpList_store_row rfl 34 _ _ rfl (w2.heap.size+1+1) rfl 34 _ #[.slice gp (qB 2 2).length gc,.slice (some ⟨w2.heap.size,0,none⟩) 1 1,.slice (some ⟨w2.heap.size+1,0,none⟩) 1 1,.slice none 0 0,.slice none 0 0] rfl (qa8 _ _ _ _) sizeTask rfl (by simp[Value.oneCell']) ?_);simp only[Act.put,yr,yF,yE];have hkn:=qgG (z:=#[.slice none 0 0,.slice none 0 0,.slice none 0 0,.slice none 0 0,.slice none 0 0]) HB2.out HU1'.out (zG HU2.out (by have:=HB1X.out;exact this));revert hkn;generalize (((w2.alloc (.cells #[.slice kp (qB 2 1).length kc] 22)).alloc (.cells #[.int .i64 2] 3)).alloc (.cells #[.slice none 0 0,.slice none 0 0,.slice none 0 0,.slice none 0 0,.slice none 0 0] 34)).setRow (w2.heap.size+1+1) #[.slice gp (qB 2 2).length gc,.slice (some ⟨w2.heap.size,0,none⟩) 1 1,.slice (some ⟨w2.heap.size+1,0,none⟩) 1 1,.slice none 0 0,.slice none 0 0]=w3;generalize w2.heap.size+1+1=tb;generalize hcv:(Value.slice (some ⟨w2.heap.size+1,0,none⟩) 1 1)=cv;generalize hkv:(Value.slice (some ⟨w2.heap.size,0,none⟩) 1 1)=kv;generalize hgv:(Value.slice gp (qB 2 2).length gc)=gv;intro hkn;have HKN:=yK hkn;have HTB3:Hid (∀ W,Below w.heap.size w W→TbAt W):=yK λ W h=>HTB.out.below h;have HARG:Hid (∀ W,KnT w W tb gv kv cv [.slice kp (qB 2 1).length kc]→HasQ W gv zN.ground∧HasQQ W kv zN.kinds∧RI.Has W cv zN.counts∧flatV cv∧RL.Has W (.slice none 0 0) zN.fixed∧RE.Has W (.slice none 0 0) zN.below∧TbAt W):=yK λ W h =>
  ⟨h.ground.has,zc8 h.kinds,REnc.Own.has h.counts,qcI h.counts,.inl ⟨rfl,rfl⟩,.inl ⟨rfl,rfl⟩,HTB3.out W h.below⟩
 have HCNT:Hid (∀ W,KnT w W tb gv kv cv [.slice kp (qB 2 1).length kc]→Calls Tryz.prog 11 #[.agg #[gv,kv,cv,.slice none 0 0,.slice none 0 0]] W λ e w'=>e=.returned (.tuple #[.int .i64 2,.int .i64 1,.int .i64 5,.int .i64 0])∧Below W.heap.size W w'):=yK λ W h=>by
  obtain⟨a1,a2,a3,a4,a5,a6,a7⟩:=HARG.out W h;refine (qfB (t:=zN) W _ _ _ _ _ a1 a2 a3 a4 a5 a6 (by decide) (by decide) a7).mono ?_;rintro e w' ⟨all,unl,nodes,code,rfl,hB,h4,_⟩;have h5:=h4 qbu;rw[zer]at h5;simp only[Prod.mk.injEq]at h5;obtain⟨rfl,rfl,rfl,rfl⟩:=h5;exact⟨rfl,hB⟩
 have HFST:Hid (∀ W,KnT w W tb gv kv cv [.slice kp (qB 2 1).length kc]→Calls Tryz.prog 15 #[.agg #[gv,kv,cv,.slice none 0 0,.slice none 0 0]] W λ e w'=>∃ v,e=.returned (.tuple #[v,.int .i64 0])∧RL.Own w' W.heap.size v tilA∧Below W.heap.size W w'):=yK λ W h=>by
  obtain⟨a1,a2,a3,a4,a5,a6,a7⟩:=HARG.out W h;refine (zdE (t:=zN) W _ _ _ _ _ a1 a2 a3 a4 a5 a6 (by decide) (by decide) a7).mono ?_;rintro e w' ⟨v,code,rfl,hB,h4,_⟩;obtain⟨h5,h6⟩:=h4 qbu;rw[qeB]at h5 h6;subst h6;exact⟨v,rfl,h5,hB⟩
 have HNXT:Hid (∀ W v x,KnT w W tb gv kv cv [.slice kp (qB 2 1).length kc]→RL.Has W v x→x.length≤16→coversT zN x=(0,0)→Calls Tryz.prog 28 #[.agg #[gv,kv,cv,.slice none 0 0,.slice none 0 0],v] W λ e w'=>∃ u,e=.returned (.tuple #[u,.int .i64 (nextT zN (parts zN x)).2])∧RL.Own w' W.heap.size u (nextT zN (parts zN x)).1∧Below W.heap.size W w'):=yK λ W v x h hv h16 h0=>by
  obtain⟨a1,a2,a3,a4,a5,a6,a7⟩:=HARG.out W h;refine (zgu (t:=zN) W _ _ _ _ _ v a1 a2 a3 a4 a5 a6 (by decide) (by decide) a7 x (by omega) hv).mono ?_;rintro e w' ⟨u,code,rfl,hB,hc⟩;rcases hc with⟨_,hc⟩|⟨_,_,_,h5,h6⟩
  ·rcases hc with⟨h1,_⟩|⟨_,h1,_⟩|⟨_,_,h1,_⟩
   ·exact absurd qbu h1
   ·omega
   exact absurd h0 h1
  subst h6;exact⟨u,rfl,h5,hB⟩
 have hT3:=hkn.task;clear hkn;go_wp2_with (refine Yb rfl 34 _ rfl tb rfl 34 #[gv,kv,cv,.slice none 0 0,.slice none 0 0] (0,0) _ hT3 underlying34 rfl sizeTask ?_);refine (HCNT.out w3 HKN.out).mono ?_;rintro e w4 ⟨rfl,hb4⟩;have HKN4:=yK (HKN.out.keep hb4);have hT4:=HKN4.out.task;clear hb4 hT3 HKN HCNT;go_wp2_with (refine Yb rfl 34 _ rfl tb rfl 34 #[gv,kv,cv,.slice none 0 0,.slice none 0 0] (0,0) _ hT4 underlying34 rfl sizeTask ?_);refine (HFST.out w4 HKN4.out).mono ?_;rintro e w5 ⟨vl,rfl,hl5,hb5⟩;have HKN5:=yK (HKN4.out.keep hb5);have hT5:=HKN5.out.task;have HL5:=yK hl5;clear hb5 hT4 HKN4 HFST hl5;have HN1:Hid (Calls Tryz.prog 28 #[.agg #[gv,kv,cv,.slice none 0 0,.slice none 0 0],vl] w5 λ e w'=>∃ u,e=.returned (.tuple #[u,.int .i64 0])∧RL.Own w' w5.heap.size u tilB∧Below w5.heap.size w5 w'):=yK (by
  have:=HNXT.out w5 vl tilA HKN5.out (REnc.Own.has HL5.out) (by decide) zbo.1;rw[zcS.1]at this;exact this)
 go_wp2_with (refine Yb rfl 34 _ rfl tb rfl 34 #[gv,kv,cv,.slice none 0 0,.slice none 0 0] (0,0) _ hT5 underlying34 rfl sizeTask ?_);refine HN1.out.mono ?_;rintro e w6 ⟨vm,rfl,hm6,hb6⟩;have HKN6:=yK (HKN5.out.keep hb6);have hT6:=HKN6.out.task;have HL6:=yK (qf HL5.out hb6);have HM6:=yK hm6;clear hb6 hT5 HKN5 HN1 hm6 HL5;have HN2:Hid (Calls Tryz.prog 28 #[.agg #[gv,kv,cv,.slice none 0 0,.slice none 0 0],vm] w6 λ e w'=>∃ u,e=.returned (.tuple #[u,.int .i64 7])∧RL.Own w' w6.heap.size u []∧Below w6.heap.size w6 w'):=yK (by
  have:=HNXT.out w6 vm tilB HKN6.out (REnc.Own.has HM6.out) (by decide) zbo.2.1;rw[zcS.2]at this;exact this)
 go_wp2_with (refine Yb rfl 34 _ rfl tb rfl 34 #[gv,kv,cv,.slice none 0 0,.slice none 0 0] (0,0) _ hT6 underlying34 rfl sizeTask ?_);refine HN2.out.mono ?_;rintro e w7 ⟨vz,rfl,_,hb7⟩;have HKN7:=yK (HKN6.out.keep hb7);have hT7:=HKN7.out.task;have HL7:=yK (qf HL6.out hb7);have HM7:=yK (qf HM6.out hb7);clear hb7 hT6 HKN6 HN2 HNXT HL6 HM6;obtain⟨gl,cl,rfl,hlc⟩:=zbR HL7.out (by decide);obtain⟨gm,cm,rfl,hmc⟩:=zbR HM7.out (by decide);have l5:w7.cell? ⟨gl,5,none⟩=some (.int .i64 0):=hlc 5 (by decide);have l6:w7.cell? ⟨gl,6,none⟩=some (.bool false):=hlc 6 (by decide);have l7:w7.cell? ⟨gl,7,none⟩=some (.int .i64 0):=hlc 7 (by decide);have l8:w7.cell? ⟨gl,8,none⟩=some (.int .i64 0):=hlc 8 (by decide);have l9:w7.cell? ⟨gl,9,none⟩=some (.int .i64 1):=hlc 9 (by decide);have m5:w7.cell? ⟨gm,5,none⟩=some (.int .i64 0):=hmc 5 (by decide);have m6:w7.cell? ⟨gm,6,none⟩=some (.bool false):=hmc 6 (by decide);have m7:w7.cell? ⟨gm,7,none⟩=some (.int .i64 1):=hmc 7 (by decide);have m8:w7.cell? ⟨gm,8,none⟩=some (.int .i64 1):=hmc 8 (by decide);have m9:w7.cell? ⟨gm,9,none⟩=some (.int .i64 0):=hmc 9 (by decide);have q1:(Op.equalIn 10000 50 (.agg #[.int .i64 0,.bool false,.int .i64 0,.int .i64 0,.int .i64 1]) (.agg #[.int .i64 0,.bool false,.int .i64 0,.int .i64 0,.int .i64 1])).run Tryz.prog w7=.ok true w7:=za6 ⟨0,false,0,0,1⟩ ⟨0,false,0,0,1⟩ w7;have q2:(Op.equalIn 10000 50 (.agg #[.int .i64 0,.bool false,.int .i64 1,.int .i64 1,.int .i64 0]) (.agg #[.int .i64 0,.bool false,.int .i64 1,.int .i64 1,.int .i64 0])).run Tryz.prog w7=.ok true w7:=za6 ⟨0,false,1,1,0⟩ ⟨0,false,1,1,0⟩ w7;clear hlc hmc;simp only[show tilA.length=2 from rfl,show tilB.length=2 from rfl]at HL7 HM7 ⊢;go_upto_region 8 with fail;have HLYR:Hid (Calls Tryz.prog 32 #[.agg #[gv,kv,cv,.slice none 0 0,.slice none 0 0],.int .i64 2] w7 λ e w'=>∃ (u:Value) (us:List Value),e=.returned (.tuple #[u,.int .i64 0])∧OwnLs RL 31 w' w7.heap.size u us [tilA,tilB]∧Below w7.heap.size w7 w'):=yK (by
  obtain⟨a1,a2,a3,a4,a5,a6,a7⟩:=HARG.out w7 HKN7.out;refine (zfg (t:=zN) 2 w7 _ _ _ _ _ a1 a2 a3 a4 a5 a6 (by decide) (by decide) a7).mono ?_;rintro e w' ⟨u,us,code,rfl,hB,hc⟩;rcases hc with⟨_,hc⟩|⟨_,_,_,h5,h6⟩
  ·rcases hc with⟨h1,_⟩|⟨_,h1,_⟩
   ·exact absurd qbu h1
   exact absurd h1 (by decide)
  rw[show (2:Int).toNat=2 from rfl,zeb]at h5 h6;subst h6;exact⟨u,us,rfl,h5,hB⟩)
 have hT7':=HKN7.out.task;clear l5 l6 l7 l8 l9 m5 m6 m7 m8 m9 q1 q2 hT7;go_wp2_with (refine Yb rfl 34 _ rfl tb rfl 34 #[gv,kv,cv,.slice none 0 0,.slice none 0 0] (0,0) _ hT7' underlying34 rfl sizeTask ?_);refine HLYR.out.mono ?_;rintro e w8 ⟨vp,vps,rfl,hp8,hb8⟩;have HKN8:=yK (HKN7.out.keep hb8);have HL8:=yK (qf HL7.out hb8);have HM8:=yK (qf HM7.out hb8);have HP8:=yK hp8;obtain⟨gp2,cp2,x1,rfl,hx1,_,_⟩:=hp8.at (i:=1) (l:=tilB) rfl;clear hb8 hp8 hT7' HKN7 HL7 HM7 HLYR hx1;go_upto_region 9 with fail;have hT8:=HKN8.out.task;have t0:∀ d:SubW w8,d.1.cell? ⟨tb,0,none⟩=some gv:=λ d=>by simp[World.cell?,d.block hT8]
 have t1:∀ d:SubW w8,d.1.cell? ⟨tb,1,none⟩=some kv:=λ d=>by simp[World.cell?,d.block hT8]
 have t2:∀ d:SubW w8,d.1.cell? ⟨tb,2,none⟩=some cv:=λ d=>by simp[World.cell?,d.block hT8]
 have t3:∀ d:SubW w8,d.1.cell? ⟨tb,3,none⟩=some (.slice none 0 0):=λ d=>by simp[World.cell?,d.block hT8]
 have t4:∀ d:SubW w8,d.1.cell? ⟨tb,4,none⟩=some (.slice none 0 0):=λ d=>by simp[World.cell?,d.block hT8]
 have HCV:Hid (∀ d:SubW w8,Calls Tryz.prog 19 #[.agg #[gv,kv,cv,.slice none 0 0,.slice none 0 0],.slice (some ⟨gl,0,none⟩) 1 cl] d.1 λ e w'=>e=.returned (.tuple #[.int .i64 4,.int .i64 8,.int .i64 0])∧∃ d':SubW w8,w'=d'.1):=yK λ d=>by
  obtain⟨a1,a2,a3,a4,a5,a6,a7⟩:=HARG.out d.1 (HKN8.out.keep d.2);refine (qfk (t:=zN) d.1 _ _ _ _ _ (.slice (some ⟨gl,0,none⟩) 1 cl) a1 a2 a3 a4 a5 a6 (by decide) (by decide) a7 (tilA.take 1) (by decide) (qgz (qf HL8.out d.2))).mono ?_;rintro e w' ⟨n,i,code,rfl,hB,_,_,hc⟩;obtain⟨h1,h2⟩:=hc qbu (by decide);rw[zbo.2.2]at h1;simp only[Prod.mk.injEq]at h1;obtain⟨rfl,rfl⟩:=h1;subst h2;exact⟨rfl,⟨w',d.2.trans (hB.mono d.2.size)⟩,rfl⟩
 clear hT8;have HCL:Hid (1≤cl):=yK (by have:=qhD HL8.out;have h2:tilA.length=2:=rfl;omega);refine qh 11 (by kernel_rfl) (by kernel_rfl) ?_;simp only[yh,yj,yi,yl]
 repeat (go_big_quiet_step (exact HCV.out _))
 go_big_quiet_want;refine qd7 (T:=31) (g:=gl) (n:=2) (cap:=cl) (k:=1) rfl rfl rfl HCL.out underlying31 sizeOf50 ?_;simp only[Act.put,yr,yF,yE];go_big_quiet_on
 repeat (go_big_quiet_step (exact HCV.out _))
 refine wpQuiet_nil ?_;intro dq;have HKN9:=yK (HKN8.out.keep dq.2);have HM9:=yK (qf HM8.out dq.2);have HP9:=yK (HP8.out.below dq.2);clear t0 t1 t2 t3 t4 HCV HKN8 HM8 HL8 HP8;revert HKN9 HM9 HP9;generalize dq.1=w9;intro HKN9 HM9 HP9;go_upto_region 10 with fail;have HWHY:Hid (∀ W ug uc,KnT w W tb gv kv cv [.slice kp (qB 2 1).length kc]→OwnQ W w9.heap.size ug (qB 3 1)→RI.Own W w9.heap.size uc [2]→Calls Tryz.prog 24 #[.agg #[ug,kv,uc,.slice none 0 0,.slice none 0 0]] W λ e w'=>e=.returned (.tuple #[.int .i64 2,.int .i64 0])∧Below W.heap.size W w'):=yK λ W ug uc h hu hc=>by
  obtain⟨a1,a2,a3,a4,a5,a6,a7⟩:=HARG.out W h;refine (zhh (t:=qdY) W ug _ uc _ _ hu.has a2 (REnc.Own.has hc) (qcI hc) a5 a6 (by decide) (by decide) a7).mono ?_;rintro e w' ⟨r,code,rfl,hB,h4,_⟩;have h5:=h4 zfZ;rw[zfd]at h5;simp only[Prod.mk.injEq]at h5;obtain⟨rfl,rfl⟩:=h5;exact⟨rfl,hB⟩
 have HRK:=@qfG tb w9.heap.size kv;have HBK:∀ L L' W,(∀ j,L j=true→L' j=true)→(λ _ W=>Below w9.heap.size w9 W:(Nat→Bool)→World→Prop) L W→(λ _ W=>Below w9.heap.size w9 W:(Nat→Bool)→World→Prop) L' W:=λ _ _ _ _ h=>h;refine zaa 164 (by kernel_rfl) (by kernel_rfl) rfl (FamJ (knF tb w9.heap.size kv) (λ _=>[]) knR (λ _ W=>Below w9.heap.size w9 W)) (FamJ.start ((yf _ w9).drew) _) ?_ ?_
 ·refine⟨?_,?_,?_,?_,?_,?_,?_,?_,?_,?_,?_,trivial⟩
  ·intro L1 b W vals hL hD hC K hJ;refine zS (args:=#[.int .i64 3,.int .i64 1]) rfl (by simp only[Yu,yM,Yi];rfl) (enters_of func63 (by kernel_rfl) rfl) ((HC3.out W).mono ?_);rintro e W' ⟨u,rfl,ho,hb⟩;exact⟨u,rfl,hJ.step HRK hL (by intro j hj;simp[knR]at hj) (hJ.base.trans (hb.mono hJ.base.size)) (zG ho hJ.base.size) (λ k hk hd hF=>qcK hb hF)⟩
  ·intro L1 b W vals hL hD hC K hJ;have e1:b.eval (.tmp 1)=(.pointer (some ⟨tb,0,none⟩)):=(K.was 1 (by kernel_rfl)).trans rfl;refine lu_v (I:=Instr.fieldAt 34 (b.eval (.tmp 1)) 1) rfl (u:=_) ?_ (hJ.still HRK HBK hL (by intro j hj;simp[knR]at hj) rfl);rw[e1];kernel_rfl
  ·intro L1 b W vals hL hD hC K hJ;obtain⟨e112,_⟩:=K.val 1 112 (by kernel_rfl);have f1:=hJ.get 1 (hD 1 (by kernel_rfl)) (by intro j hj;simp at hj);refine lu_v (I:=Instr.loadAt 29 (b.eval (.tmp 112))) rfl ?_ (hJ.still HRK HBK hL (by intro j hj;simp[knR]at hj) rfl);rw[e112,f1];exact zk isAgg29 (by have:=(HKN9.out.keep hJ.base).task;simp only[World.cell?,this];rfl)
  ·intro L1 b W vals hL hD hC K hJ;obtain⟨iI,hiI,hzI,hsI,hbI⟩:=info_parts zcl;refine qaa (u:=.int .i64 2) rfl rfl underlying30 hiI hzI (by rw[hsI];decide) (by rw[hsI];decide) (cells:=([.int .i64 2]:List Value).toArray) (by rw[hsI];exact Great.fill_flat [.int .i64 2] _ (λ v hv=>by simp only[yU]at hv;subst hv;rfl) (by simp)) ?_;have hb:Below W.heap.size W (W.alloc (.cells ([.int .i64 2]:List Value).toArray 3)):=(yf _ W).alloc (ye _) _;exact hJ.step HRK hL (by intro j hj;simp[knR]at hj) (hJ.base.trans (hb.mono hJ.base.size)) (show World.ownsRow _ _ _ _ _ _ _ from⟨rfl,.inr ⟨W.heap.size,1,#[.int .i64 2],rfl,hJ.base.size,yd W _,ye _,by decide,rfl,rfl⟩⟩) (λ k hk hd hF=>qcK hb hF)
  ·intro L1 b W vals hL hD hC K hJ;obtain⟨e111,_⟩:=K.val 0 111 (by kernel_rfl);obtain⟨e113,_⟩:=K.val 2 113 (by kernel_rfl);obtain⟨e114,_⟩:=K.val 3 114 (by kernel_rfl);have f0:=hJ.get 0 (hD 0 (by kernel_rfl)) (by intro j hj;simp at hj);have f2:=hJ.get 2 (hD 2 (by kernel_rfl)) (by intro j hj;simp at hj);have f3:=hJ.get 3 (hD 3 (by kernel_rfl)) (by intro j hj;simp at hj);obtain⟨p0,c0,h0⟩:=qg f0;obtain⟨p3,c3,h3⟩:=qg f3;have g2:vals 2=kv:=f2;obtain⟨pk,ck,hk⟩:=qg HKN9.out.kinds.row;refine qQ (W':=W) (v:=.agg #[vals 0,vals 2,vals 3,.slice none 0 0,.slice none 0 0]) ?_ (hJ.still HRK HBK hL (by intro j hj;simp[knR]at hj;rcases hj with rfl|rfl|rfl <;> exact hD _ (by kernel_rfl)) rfl)
   unfold execOp;have hbu:=run_build (P:=Tryz.prog) W 34 #[(0,vals 0),(1,vals 2),(2,vals 3)] #[vals 0,vals 2,vals 3,.slice none 0 0,.slice none 0 0] (by rw[h0,g2,hk,h3];kernel_rfl);simp only[Yu,yM,Yi,e111,e113,e114,yG,hbu,yz,yH]
  ·intro L1 b W vals hL hD hC K hJ;obtain⟨e115,_⟩:=K.val 4 115 (by kernel_rfl);have f4:=hJ.get 4 (hD 4 (by kernel_rfl)) (by intro j hj;simp at hj);have hr4:=(hJ.each 4 (hD 4 (by kernel_rfl))).1;have f0:=hJ.get 0 (hr4 0 (by simp[knR])) (by intro j hj;simp at hj);have f2:=hJ.get 2 (hr4 2 (by simp[knR])) (by intro j hj;simp at hj);have f3:=hJ.get 3 (hr4 3 (by simp[knR])) (by intro j hj;simp at hj);have g4:vals 4=.agg #[vals 0,vals 2,vals 3,.slice none 0 0,.slice none 0 0]:=f4;have g2:vals 2=kv:=f2;refine zS (args:=#[.agg #[vals 0,kv,vals 3,.slice none 0 0,.slice none 0 0]]) rfl (by simp only[Yu,yM,Yi,e115,g4,g2]) (enters_of func24 (by kernel_rfl) rfl) ((HWHY.out W _ _ (HKN9.out.keep hJ.base) f0 f3).mono ?_);rintro e W' ⟨rfl,hb⟩;exact⟨_,rfl,hJ.step HRK hL (by intro j hj;simp[knR]at hj) (hJ.base.trans (hb.mono hJ.base.size)) rfl (λ k hk hd hF=>qcK hb hF)⟩
  ·intro L1 b W vals hL hD hC K hJ;obtain⟨e116,_⟩:=K.val 5 116 (by kernel_rfl);have f5:=hJ.get 5 (hD 5 (by kernel_rfl)) (by intro j hj;simp at hj);refine zO rfl ?_;have g5:vals 5=.tuple #[.int .i64 2,.int .i64 0]:=f5;rw[e116,g5];exact (hJ.still HRK HBK hL (by intro j hj;simp[knR]at hj) rfl)
  ·intro L1 b W vals hL hD hC K hJ;obtain⟨e110,_⟩:=K.val 6 110 (by kernel_rfl);have f6:=hJ.get 6 (hD 6 (by kernel_rfl)) (by intro j hj;simp at hj);refine lu_v (I:=Instr.extract (b.eval (.tmp 110)) 0) (u:=.int .i64 2) rfl ?_ (hJ.still HRK HBK hL (by intro j hj;simp[knR]at hj) rfl);have g6:vals 6=.tuple #[.int .i64 2,.int .i64 0]:=f6;rw[e110,g6];exact qac rfl _
  ·intro L1 b W vals hL hD hC K hJ;obtain⟨e110,_⟩:=K.val 6 110 (by kernel_rfl);have f6:=hJ.get 6 (hD 6 (by kernel_rfl)) (by intro j hj;simp at hj);refine lu_v (I:=Instr.extract (b.eval (.tmp 110)) 1) (u:=.int .i64 0) rfl ?_ (hJ.still HRK HBK hL (by intro j hj;simp[knR]at hj) rfl);have g6:vals 6=.tuple #[.int .i64 2,.int .i64 0]:=f6;rw[e110,g6];exact qac rfl _
  ·intro L1 b W vals hL hD hC K hJ;obtain⟨e117,_⟩:=K.val 7 117 (by kernel_rfl);have f7:=hJ.get 7 (hD 7 (by kernel_rfl)) (by intro j hj;simp at hj);refine qaS rfl ?_;have g:vals 7=.int .i64 2:=f7;rw[e117,g];exact (hJ.still HRK HBK hL (by intro j hj;simp[knR]at hj) rfl)
  intro L1 b W vals hL hD hC K hJ;obtain⟨e118,_⟩:=K.val 8 118 (by kernel_rfl);have f8:=hJ.get 8 (hD 8 (by kernel_rfl)) (by intro j hj;simp at hj);refine qaS rfl ?_;have g:vals 8=.int .i64 0:=f8;rw[e118,g];exact (hJ.still HRK HBK hL (by intro j hj;simp[knR]at hj) rfl)
 intro L1 vals W hL hJ;have f9:=hJ.get 9 (hL 9 (by decide)) (by intro j hj;simp at hj);have f10:=hJ.get 10 (hL 10 (by decide)) (by intro j hj;simp at hj);have h9:vals 9=.int .i64 2:=f9;have h10:vals 10=.int .i64 0:=f10;have hbW:Below w9.heap.size w9 W:=hJ.base;have HKN10:=yK (HKN9.out.keep hbW);have hm10:=qf HM9.out hbW;have hp10:=HP9.out.below hbW;obtain⟨x1,hx1,hcell,_,hox⟩:=hp10.get (i:=1) (l:=tilB) rfl;obtain⟨gx,cx,rfl,hxc⟩:=zbR hox (by decide);obtain⟨gm',cm',hme,hmc⟩:=zbR hm10 (by decide);simp only[yC,yo,Addr.mk.injEq,and_true]at hme;obtain⟨rfl,h22,rfl⟩:=hme;clear h22;have m0:W.cell? ⟨gm,0,none⟩=some (.int .i64 0):=hmc 0 (by decide);have m1:W.cell? ⟨gm,1,none⟩=some (.bool false):=hmc 1 (by decide);have m2:W.cell? ⟨gm,2,none⟩=some (.int .i64 1):=hmc 2 (by decide);have m3:W.cell? ⟨gm,3,none⟩=some (.int .i64 0):=hmc 3 (by decide);have m4:W.cell? ⟨gm,4,none⟩=some (.int .i64 0):=hmc 4 (by decide);have x0:W.cell? ⟨gx,0,none⟩=some (.int .i64 0):=hxc 0 (by decide);have x1:W.cell? ⟨gx,1,none⟩=some (.bool false):=hxc 1 (by decide);have x2:W.cell? ⟨gx,2,none⟩=some (.int .i64 1):=hxc 2 (by decide);have x3:W.cell? ⟨gx,3,none⟩=some (.int .i64 0):=hxc 3 (by decide);have x4:W.cell? ⟨gx,4,none⟩=some (.int .i64 0):=hxc 4 (by decide);have q1:∀ W,(Op.equalIn 10000 50 (.agg #[.int .i64 0,.bool false,.int .i64 1,.int .i64 0,.int .i64 0]) (.agg #[.int .i64 0,.bool false,.int .i64 1,.int .i64 0,.int .i64 0])).run Tryz.prog W=.ok true W:=λ W=>za6 ⟨0,false,1,0,0⟩ ⟨0,false,1,0,0⟩ W;simp only[show tilB.length=2 from rfl]at hcell;clear hJ hL f9 f10 hbW hm10 hp10 hx1 hox hxc hmc HRK HBK HWHY;simp only[yA,yN,Yl,YE,Yk,Yg,yM,Yi,putAll,Act.put,yr,yF,yE,h9,h10];clear h9 h10;go_upto_region 11 with fail;refine zt 45 (by kernel_rfl) (by kernel_rfl) ?_;simp only[yh,yj,yi,yl]
 repeat (go_big_quiet_step (fail))
 refine wpQuiet_nil ?_;intro nq;have HBF:=yK (HKN10.out.below.trans ((below_drewN _ W nq).mono HKN10.out.below.size));clear m0 m1 m2 m3 m4 x0 x1 x2 x3 x4 q1 hcell;go_wp2_with fail;rw[← HPO.out];exact⟨rfl,HBF.out⟩
def sumTo (f:Nat→Int):Nat→Int
 | 0=>0
 | n+1=>sumTo f n+f n
theorem sumTo_congr {f g:Nat→Int}:∀ {n:Nat},(∀ i,i<n→f i=g i)→sumTo f n=sumTo g n
 | 0,_=>rfl
 | n+1,h=>by unfold sumTo;rw[sumTo_congr λ i hi=>h i (by omega),h n (by omega)]
theorem zch (f g:Nat→Int):∀ n:Nat,sumTo (λ i=>f i+g i) n=sumTo f n+sumTo g n
 | 0=>rfl
 | n+1=>by unfold sumTo;rw[zch f g n];omega
theorem qbY:∀ n:Nat,sumTo (λ _=>0) n=0
 | 0=>rfl
 | n+1=>by unfold sumTo;rw[qbY n];rfl
theorem sumTo_le {f g:Nat→Int}:∀ {n:Nat},(∀ i,i<n→f i≤g i)→sumTo f n≤sumTo g n
 | 0,_=>Int.le_refl _
 | n+1,h=>by
  unfold sumTo;have:=sumTo_le (n:=n) λ i hi=>h i (by omega);have:=h n (by omega);omega
theorem za8 {f:Nat→Int} {b:Int}:∀ {n:Nat},(∀ i,i<n→-b≤f i∧f i≤b)→-(n*b)≤sumTo f n∧sumTo f n≤n*b
 | 0,_=>by unfold sumTo;simp
 | n+1,h=>by
  unfold sumTo;have h1:=za8 (n:=n) λ i hi=>h i (by omega);have h2:=h n (by omega);have h3:((n+1:Nat):Int)*b=n*b+b:=by rw[Int.natCast_succ,Int.add_mul,Int.one_mul]
  omega
theorem zdv (c:Nat) (a:Int):∀ n:Nat,sumTo (λ k=>if k=c then a else 0) n=if c<n then a else 0
 | 0=>by rw[Yz (by omega)];rfl
 | n+1=>by
  unfold sumTo;rw[zdv c a n];by_cases h1:c<n
  ·rw[YA h1,Yz (by omega),YA (by omega)];omega
  by_cases h2:n=c
  ·rw[Yz h1,YA h2,YA (by omega)];omega
  rw[Yz h1,Yz h2,Yz (by omega)];rfl
theorem qbj:∀ (n:Nat) (l:List Int),n≤l.length→sumTo (λ i=>l.getD i 0) n=(l.take n).sum
 | 0,l,_=>by simp[sumTo]
 | n+1,l,h=>by
  unfold sumTo;rw[qbj n l (by omega),Ys (by omega),List.sum_append,yu,yb (by omega)];simp
theorem qcU (f:Pc→Nat→Int) (n:Nat):∀ x:List Pc,(x.map λ p=>sumTo (f p) n).sum=sumTo (λ j=>(x.map λ p=>f p j).sum) n
 | []=>by simp[qbY]
 | p :: x=>by
  rw[yM,List.sum_cons,qcU f n x,← zch];rfl
def bitW (g:List Q) (ws:List Int) (p:Pc) (i:Nat):Int:=if g.getD i ⟨0,0,0⟩∈p.qs then ws.getD i 0 else 0
def wP (g:List Q) (ws:List Int) (p:Pc):Int:=sumTo (bitW g ws p) ws.length
def leastW (g:List Q) (ws:List Int) (l:List Pc):Int:=l.foldl (λ m p=>min m (wP g ws p)) 16000
def needK (t:Tk) (ws:List Int) (k:Nat):Int:=if t.counts.getD k 0=0 then 0 else t.counts.getD k 0*leastW t.ground ws ((piecesT t).getD k [])
def lostK (t:Tk) (k:Nat):Bool:=decide (t.counts.getD k 0≠0)&&((piecesT t).getD k []).isEmpty
def leftW (t:Tk) (ws:List Int) (k:Nat):Int:=ws.sum-sumTo (needK t ws) k
def refT (t:Tk) (ws:List Int):Bool:=(List.range t.counts.length).any (lostK t)||decide (leftW t ws t.counts.length<0)
def fitW (t:Tk) (ws:List Int):Prop:=ws.length=t.ground.length∧∀ w∈ws,-1000≤w∧w≤1000
theorem qf5 {t:Tk} {ws:List Int} (h:fitW t ws) (g:List Q) (p:Pc) (n:Nat) (hn:n≤ws.length):-(n*1000)≤sumTo (bitW g ws p) n∧sumTo (bitW g ws p) n≤n*1000:=by
 refine za8 λ i hi=>?_;unfold bitW;split
 ·rw[yu,yb (by omega),Yw];exact h.2 _ (List.getElem_mem _)
 omega
theorem zbn (g:List Q) (ws:List Int):∀ (l:List Pc) (m:Int),l.foldl (λ m p=>min m (wP g ws p)) m≤m∧∀ p∈l,l.foldl (λ m p=>min m (wP g ws p)) m≤wP g ws p
 | [],m=>⟨Int.le_refl _,λ p hp=>by cases hp⟩
 | a :: l,m=>by
  rw[Yv];obtain⟨h1,h2⟩:=zbn g ws l (min m (wP g ws a));refine⟨by omega,λ p hp=>?_⟩;rcases Ye.1 hp with rfl|hp
  ·omega
  exact h2 p hp
theorem qfF {g:List Q} {ws:List Int} {l:List Pc} {p:Pc} (hp:p∈l):leastW g ws l≤wP g ws p:=(zbn g ws l 16000).2 p hp
theorem zcU (g:List Q) (ws:List Int) (l:List Pc):leastW g ws l≤16000:=(zbn g ws l 16000).1
theorem qdd {t:Tk} {ws:List Int} (h:fitW t ws) (h64:t.ground.length≤64) (g:List Q) (l:List Pc):-64000≤leastW g ws l:=by
 have key:∀ (l:List Pc) (m:Int),-64000≤m→-64000≤l.foldl (λ m p=>min m (wP g ws p)) m:=by
  intro l
  induction l with
  | nil=>intro m hm;exact hm
  | cons a l ih =>
   intro m hm;rw[Yv];refine ih _ ?_;have h1:=(qf5 h g a ws.length (ye _)).1;have h2:ws.length≤64:=(by rw[h.1];exact h64);have h3:-64000≤wP g ws a:=(by unfold wP;omega);omega
 exact key l 16000 (by omega)
theorem zeB (g:List Q) (ws:List Int) (l:List Pc) (p:Pc):leastW g ws (l++[p])=min (leastW g ws l) (wP g ws p):=by
 unfold leastW;rw[List.foldl_append];rfl
theorem zf2 {t:Tk} (ho:OkT t) {ws:List Int} (h:fitW t ws) (k:Nat):-1024000≤needK t ws k∧needK t ws k≤1024000:=by
 unfold needK;split
 ·omega
 have h1:=zcU t.ground ws ((piecesT t).getD k []);have h2:=qdd h ho.g64 t.ground ((piecesT t).getD k []);generalize leastW t.ground ws ((piecesT t).getD k [])=m at *;by_cases hk:k<t.counts.length
 ·rw[yu,yb hk,Yw];obtain⟨c1,c2⟩:=ho.cnt _ (List.getElem_mem hk);generalize t.counts[k]=c at *;constructor
  ·have:=Int.mul_le_mul_of_nonneg_left h2 c1;have:=Int.mul_le_mul_of_nonneg_right c2 (show (0:Int)≤64000 by omega);omega
  have:=Int.mul_le_mul_of_nonneg_left h1 c1;have:=Int.mul_le_mul_of_nonneg_right c2 (show (0:Int)≤16000 by omega);omega
 rw[yu,List.getElem?_eq_none (by omega),Option.getD_none];omega
theorem zdC {t:Tk} (ho:OkT t) {ws:List Int} (h:fitW t ws) {k:Nat} (hk:k≤t.counts.length):-9000000≤leftW t ws k∧leftW t ws k≤9000000:=by
 have h1:=za8 (n:=k) λ i _=>zf2 ho h i;have h2:ws.length≤64:=by rw[h.1];exact ho.g64
 have h3:=qbj ws.length ws (ye _);rw[Yd]at h3;have h4:-(ws.length*1000)≤sumTo (λ i=>ws.getD i 0) ws.length∧sumTo (λ i=>ws.getD i 0) ws.length≤ws.length*1000:=za8 λ i hi=>by
  simp only[yu];rw[yb hi,Yw];exact h.2 _ (List.getElem_mem _)
 have h5:=ho.klen.2;have h6:=ho.clen;unfold leftW;omega
theorem qhl {x:List Pc} (h:ApartT x) (q:Q) (w:Int):(x.map λ p=>if q∈p.qs then w else 0).sum=if covT x q=true then w else 0:=by
 induction x with
 | nil=>simp[covT]
 | cons p x ih =>
  obtain⟨h1,h2⟩:=List.pairwise_cons.1 h;rw[yM,List.sum_cons,ih h2];by_cases hp:q∈p.qs
  ·have hc:covT x q=false:=by
    cases hc:covT x q with
    | false=>rfl
    | true =>
     obtain⟨r,hr,hq⟩:=qaq.1 hc;exact absurd hq (h1 r hr q hp)
   have hc2:covT (p :: x) q=true:=qaq.2 ⟨p,by simp,hp⟩;rw[YA hp,Yz (by rw[hc];decide),YA hc2];omega
  rw[Yz hp];have e:covT (p :: x) q=covT x q:=by
   unfold covT;rw[List.any_cons,yv hp,Bool.false_or]
  rw[e];omega
theorem zhP {t:Tk} {x:List Pc} (h:TlT t x) {ws:List Int} (hw:fitW t ws):(x.map (wP t.ground ws)).sum=ws.sum:=by
 have h1:=qcU (bitW t.ground ws) ws.length x;have h2:sumTo (λ j=>(x.map λ p=>bitW t.ground ws p j).sum) ws.length=sumTo (λ j=>ws.getD j 0) ws.length:=by
  refine sumTo_congr λ i hi=>?_;unfold bitW;rw[qhl h.good.apart];have hf:=h.full;unfold fullT at hf;rw[List.all_eq_true]at hf;rw[YA];have hg:i<t.ground.length:=by rw[← hw.1];exact hi
  rw[yu,yb hg];exact hf _ (List.getElem_mem hg)
 have h3:=qbj ws.length ws (ye _);rw[Yd]at h3;exact h1.trans (h2.trans h3)
theorem qdV (f:Pc→Int) (K:Nat):∀ x:List Pc,(∀ p∈x,∃ k:Nat,p.ld.kind=k∧k<K)→sumTo (λ k=>((x.filter λ p=>decide (p.ld.kind=(k:Int))).map f).sum) K=(x.map f).sum
 | [],_=>by simp[qbY]
 | p :: x,h=>by
  obtain⟨c,hc,hcK⟩:=h p (by simp);rw[yM,List.sum_cons,← qdV f K x λ q hq=>h q (Yn _ hq)];have e:(if c<K then f p else 0)=f p:=YA hcK;rw[← e,← zdv c (f p) K,← zch];refine sumTo_congr λ i _=>?_;by_cases hi:i=c
  ·rw[YA hi,List.filter_cons_of_pos (by rw[hc,hi];simp),yM,List.sum_cons]
  rw[Yz hi,List.filter_cons_of_neg (by rw[hc];simp;omega)];omega
theorem qd0 {f:Pc→Int} {m:Int}:∀ {x:List Pc},(∀ p∈x,m≤f p)→(x.length:Int)*m≤(x.map f).sum
 | [],_=>by simp
 | p :: x,h=>by
  rw[yM,List.sum_cons,yA];have h1:=qd0 λ q hq=>h q (Yn _ hq);have h2:=h p (by simp);have h3:((x.length+1:Nat):Int)*m=x.length*m+m:=by rw[Int.natCast_succ,Int.add_mul,Int.one_mul]
  omega
theorem qcF {t:Tk} (ho:OkT t) {p:Pc} (hp:p∈(piecesT t).flatten):∃ k:Nat,p.ld.kind=k∧k<t.counts.length∧p∈(piecesT t).getD k []:=by
 obtain⟨l,hl,hpl⟩:=List.mem_flatten.1 hp;obtain⟨k,hk,rfl⟩:=List.getElem_of_mem hl;have hg:(piecesT t)[k]?=some (piecesT t)[k]:=yb hk;refine⟨k,(zhd ho).kind k _ hg p hpl,by rw[ho.clen,← zA];exact hk,?_⟩;rw[yu,hg];exact hpl
theorem zgI {t:Tk} (ho:OkT t) {ws:List Int} (hw:fitW t ws) (h:refT t ws=true) {x:List Pc} (hx:TlT t x):False:=by
 have hmem:∀ p∈x,∃ k:Nat,p.ld.kind=k∧k<t.counts.length:=λ p hp=>by
  obtain⟨k,h1,h2,_⟩:=qcF ho (hx.good.mem p hp);exact⟨k,h1,h2⟩
 unfold refT at h;rcases Bool.or_eq_true _ _▸h with h|h
 ·rw[List.any_eq_true]at h;obtain⟨k,hk,hl⟩:=h;rw[List.mem_range]at hk;unfold lostK at hl;simp only[Yr,yS,List.isEmpty_iff]at hl;have hm:=qbB hx.right hk;have hn:manyT x k≠0:=by intro e;rw[e]at hm;exact hl.1 (by rw[← hm];rfl)
  unfold manyT at hn;obtain⟨p,hp⟩:=List.exists_mem_of_length_pos (Nat.pos_of_ne_zero hn);obtain⟨hp1,hp2⟩:=List.mem_filter.1 hp;obtain⟨k',h1,h2,h3⟩:=qcF ho (hx.good.mem p hp1);have hp2:p.ld.kind=(k:Int):=by simpa using hp2
  have:k'=k:=by omega
  rw[this,hl.2]at h3
  cases h3
 rw[yS]at h;have h1:=zhP hx hw;have h2:=qdV (wP t.ground ws) t.counts.length x hmem;have h3:sumTo (needK t ws) t.counts.length≤sumTo (λ k=>((x.filter λ p=>decide (p.ld.kind=(k:Int))).map (wP t.ground ws)).sum) t.counts.length:=by
  refine sumTo_le λ k hk=>?_;have hm:=qbB hx.right hk;unfold needK;have h4:∀ p∈x.filter λ p=>decide (p.ld.kind=(k:Int)),leastW t.ground ws ((piecesT t).getD k [])≤wP t.ground ws p:=λ p hp=>by
   obtain⟨hp1,hp2⟩:=List.mem_filter.1 hp;have hp2:p.ld.kind=(k:Int):=(by simpa using hp2);obtain⟨k',h1,h2,h3⟩:=qcF ho (hx.good.mem p hp1);have:k'=k:=(by omega);rw[this]at h3;exact qfF h3
  have h5:=qd0 h4;unfold manyT at hm;rw[hm]at h5;split
  ·rename_i h0;rw[h0]at h5;omega
  exact h5
 unfold leftW at h;omega
theorem zhe {t:Tk} (ho:OkT t) {k:Nat} {s:List Q} (hs:t.kinds[k]?=some s) {p:Pc} (hp:p∈piecesK t.ground k s):wP t.ground (List.replicate t.ground.length 1) p=s.length:=by
 obtain⟨pl,hpl,rfl⟩:=yP.1 hp;obtain⟨h1,h2,h3⟩:=qbs (ho.kinds s (yg hs)) hpl k;have hpm:pieceP k s pl∈(piecesT t).flatten:=zg4 hs hpl;have hnd:(pieceP k s pl).qs.Nodup:=by
  obtain⟨a1,a2,a3⟩:=qdb ho (x:=[pieceP k s pl]) ⟨λ q hq=>by rw[yU]at hq;subst hq;exact hpm,by unfold ApartT;simp⟩;simpa using a1
 have hgn:t.ground.Nodup:=(ql ho.ground).1.2.nodup;generalize pieceP k s pl=p at *;have key:∀ n:Nat,n≤t.ground.length→sumTo (bitW t.ground (List.replicate t.ground.length 1) p) n=(((t.ground.take n).filter λ q=>decide (q∈p.qs)).length:Int):=by
  intro n
  induction n with
  | zero=>intro _;simp[sumTo]
  | succ n ih =>
   intro hn;unfold sumTo;rw[ih (by omega),Ys (by omega),List.filter_append,yL];unfold bitW;rw[yu,yb (by omega:n<t.ground.length),Yw,yu,List.getElem?_replicate,YA (by omega:n<t.ground.length),Yw];by_cases hm:t.ground[n]∈p.qs
   ·rw[YA hm,List.filter_cons_of_pos (by simpa using hm)];simp
   rw[Yz hm,List.filter_cons_of_neg (by simpa using hm)];simp
 have h4:=key t.ground.length (ye _);rw[Yd]at h4;unfold wP;rw[Ya,h4,← h2];have h5:(t.ground.filter λ q=>decide (q∈p.qs)).Perm p.qs:=(List.perm_ext_iff_of_nodup (hgn.filter _) hnd).2 λ q=>by
  rw[List.mem_filter,yS];exact⟨λ h=>h.2,λ h=>⟨h3 q h,h⟩⟩
 rw[h5.length_eq]
theorem qff {t:Tk} (ho:OkT t) {k:Nat} {s:List Q} (hs:t.kinds[k]?=some s) (hne:piecesK t.ground k s≠[]):leastW t.ground (List.replicate t.ground.length 1) (piecesK t.ground k s)=s.length:=by
 have h16:=ho.kind16 s (yg hs);have h1:∀ p∈piecesK t.ground k s,wP t.ground (List.replicate t.ground.length 1) p=s.length:=λ p hp=>zhe ho hs hp;have key:∀ (l:List Pc) (m:Int),(∀ p∈l,wP t.ground (List.replicate t.ground.length 1) p=s.length)→(m=s.length∨l≠[]∧(s.length:Int)≤m)→l.foldl (λ m p=>min m (wP t.ground (List.replicate t.ground.length 1) p)) m=s.length:=by
  intro l
  induction l with
  | nil=>intro m _ h;rcases h with h|h;exact h;exact absurd rfl h.1
  | cons a l ih =>
   intro m ha h;rw[Yv];refine ih _ (λ p hp=>ha p (Yn _ hp)) (.inl ?_);rw[ha a (by simp)];rcases h with h|h <;> omega
 exact key _ 16000 h1 (.inr ⟨hne,by omega⟩)
def needT (t:Tk) (k:Nat):Int:=sumTo (λ k=>t.counts.getD k 0*((t.kinds.getD k []).length:Int)) k
theorem qht {t:Tk}:fitW t (List.replicate t.ground.length 1):=⟨Ya,λ w hw=>by rw[List.eq_of_mem_replicate hw];omega⟩
theorem zgM {t:Tk} (ho:OkT t):refT t (List.replicate t.ground.length 1)=((List.range t.counts.length).any (lostK t)||decide ((t.ground.length:Int)<needT t t.counts.length)):=by
 unfold refT
 cases hl:(List.range t.counts.length).any (lostK t)with
 | true=>rfl
 | false =>
  rw[Bool.false_or,Bool.false_or];rw[List.any_eq_false]at hl;have e:sumTo (needK t (List.replicate t.ground.length 1)) t.counts.length=needT t t.counts.length:=by
   unfold needT;refine sumTo_congr λ k hk=>?_;unfold needK;split
   ·rename_i h0;rw[h0];omega
   rename_i h0;have h1:=hl k (List.mem_range.2 hk);unfold lostK at h1;rw[yw h0,Bool.true_and]at h1;have hkk:k<t.kinds.length:=(by rw[← ho.clen];exact hk);have hs:t.kinds[k]?=some t.kinds[k]:=yb hkk;have hp:=zaE hs;have hpd:(piecesT t).getD k []=piecesK t.ground k t.kinds[k]:=(by rw[yu,hp];rfl);have hkd:t.kinds.getD k []=t.kinds[k]:=(by rw[yu,hs];rfl);rw[hpd]at h1 ⊢;rw[qff ho hs (by intro e;rw[e]at h1;exact h1 rfl),hkd]
  unfold leftW;rw[e];have es:(List.replicate t.ground.length (1:Int)).sum=t.ground.length:=by
   have:∀ n:Nat,(List.replicate n (1:Int)).sum=n:=λ n=>by
    induction n with
    | zero=>rfl
    | succ n ih=>rw[List.replicate_succ,List.sum_cons,ih];omega
   exact this _
  rw[es];simp only[decide_eq_decide];omega
theorem zev (n:Int) (w:World) :
  Calls Tryz.prog 69 #[.int .i64 n] w λ e w'=>e=.returned (.bool (!decide (-1000≤n∧n≤1000)))∧w'=w:=by
 have hW:=zB n (-1000) 1000 w;obtain⟨b,hb⟩:∃ b,decide (-1000≤n∧n≤1000)=b:=⟨_,rfl⟩;rw[hb]at hW ⊢;clear hb;have HW:=yK hW;clear hW;go_enter func69,ntmps69;go_wp2_with fail;refine HW.out.mono ?_;rintro e w' ⟨rfl,rfl⟩;go_wp2_with fail;go_ret;exact⟨rfl,rfl⟩
def badW (ws:List Int):Bool:=ws.any λ n=>!decide (-1000≤n∧n≤1000)
theorem zhz (ws:List Int) (v:Value) (w:World) (h:RI.Has w v ws) (hl:ws.length≤1000000) :
  Calls Tryz.prog 113 #[v,.func (.func 69) #[] #[]] w λ e w'=>∃ r:Int,e=.returned (.int .i64 r)∧decide (0≤r)=badW ws∧w'=w:=by
 obtain⟨vp,vc,rfl⟩:=h.slice;have HV:=yK h;clear h;generalize hpo:(λ (e:Ending) (w':World)=>∃ r:Int,e=.returned (.int .i64 r)∧decide (0≤r)=badW ws∧w'=w)=Po;have HPO:=yK hpo;clear hpo;go_enter func113,ntmps113;go_wp2_with fail;go_loopw [8] (λ z wr=>∃ k:Nat,k≤ws.length∧z=.int .i64 k∧Hid (badW (ws.take k)=false∧wr=w)) (λ z _=>ws.length-(intOf z).toNat)
 case atStart=>exact⟨0,YC _,rfl,yK ⟨rfl,rfl⟩⟩
 case round =>
  obtain⟨k,hk,rfl,HR⟩:=hrel;have e:=HR.out.2;subst e;by_cases hlt:k<ws.length
  ·obtain⟨n,hn⟩:∃ n,ws[k]?=some n:=⟨_,yb hlt⟩;obtain⟨va,rfl,hva⟩:=HV.out.at_ (by rintro e;rw[e]at hlt;simp at hlt);have c0:=RI.at_cell hva hn;have HS:Hid (badW (ws.take (k+1))=!decide (-1000≤n∧n≤1000)):=yK (by
    rw[qo hn];have h0:=HR.out.1;unfold badW at h0 ⊢;rw[List.any_append,h0,Bool.false_or];simp)
   have HM:Hid ((!decide (-1000≤n∧n≤1000))=true→badW ws=true):=yK λ h=>by
    unfold badW;rw[List.any_eq_true];exact⟨n,yg hn,h⟩
   have HF:=yK (zev n wr);clear hva hn;go_wp2_with fail;refine HF.out.mono ?_;rintro e w1 ⟨rfl,rfl⟩;clear HF;revert HS HM;generalize (!decide (-1000≤n∧n≤1000))=b;intro HS HM
   cases b with
   | true =>
    have HB:=yK (HM.out rfl);go_wp2_with fail;rw[← HPO.out];exact⟨k,rfl,by rw[HB.out];exact yw (by omega),rfl⟩
   | false =>
    go_wp2_with fail
    go_roundw
    case rel=>exact⟨k+1,by omega,by go_num,yK ⟨HS.out,by trivial⟩⟩
    case measure=>simp only[intOf];omega
  obtain rfl:k=ws.length:=by omega
  have HB:Hid (badW ws=false):=yK (by have:=HR.out.1;rwa [Yd]at this);go_wp2_with fail;rw[← HPO.out];exact⟨-1,rfl,by rw[HB.out];rfl,rfl⟩
theorem qeZ (ws:List Int) (v:Value) (w:World) (h:RI.Has w v ws) (hl:ws.length≤1000000) :
  Calls Tryz.prog 68 #[v,.func (.func 69) #[] #[]] w λ e w'=>e=.returned (.bool (badW ws))∧w'=w:=by
 have HI:=yK (zhz ws v w h hl);clear h;go_enter func68,ntmps68;go_wp2_with fail;refine HI.out.mono ?_;rintro e w' ⟨r,rfl,hr,rfl⟩;clear HI;have HR:=yK hr;clear hr;go_wp2_with fail;go_ret;exact⟨by rw[← HR.out];rfl,rfl⟩
def RefPost (t:Tk) (ws:List Int) (w:World) (e:Ending) (w':World):Prop :=
 ∃ (b:Bool) (code:Nat),e=.returned (.tuple #[.bool b,.int .i64 code])∧Below w.heap.size w w'∧(¬ OkT t→b=false∧code=2)∧(OkT t→¬ fitW t ws→b=false∧code=4)∧(OkT t→fitW t ws→b=refT t ws∧code=0)
theorem qdS (t:Tk) (ws:List Int):fitW t ws↔ws.length=t.ground.length∧badW ws=false:=by
 unfold fitW badW;rw[List.any_eq_false];simp
theorem qev {t:Tk} {ws:List Int} (w:World) (vg vk vc vf vb vw:Value) (hg:HasQ w vg t.ground) (hk:HasQQ w vk t.kinds) (hc:RI.Has w vc t.counts) (hcf:flatV vc) (hf:RL.Has w vf t.fixed) (hb:RE.Has w vb t.below) (hcl:t.counts.length≤1000) (hbl:t.below.length≤1000000)
  (hw:RI.Has w vw ws) (hwl:ws.length≤1000000) :
  Calls Tryz.prog 29 #[.agg #[vg,vk,vc,vf,vb],vw] w (RefPost t ws w):=by
 obtain⟨gp,gc,rfl⟩:=hg.slice;obtain⟨kp,kc,rfl⟩:=hk.slice;obtain⟨cp,cc,rfl⟩:=hc.slice;obtain⟨fp,fc,rfl⟩:=hf.slice;obtain⟨bp,bc,rfl⟩:=hb.slice;obtain⟨wp,wc,rfl⟩:=hw.slice;have HCK:Hid (∀ W,Below w.heap.size w W→Calls Tryz.prog 13 #[.agg #[.slice gp t.ground.length gc,.slice kp t.kinds.length kc,.slice cp t.counts.length cc,.slice fp t.fixed.length fc,.slice bp t.below.length bc]] W (CkPost t W)):=yK
  λ W h=>qan W _ _ _ _ _ (hg.below h) (hk.below h) (hc.below h) (hf.below h) (hb.below h) hcl hbl
 have HLY:Hid (∀ W,Below w.heap.size w W→OkT t→Calls Tryz.prog 37 #[.agg #[.slice gp t.ground.length gc,.slice kp t.kinds.length kc,.slice cp t.counts.length cc,.slice fp t.fixed.length fc,.slice bp t.below.length bc]] W λ e w'=>∃ (bb:Nat) (bv:BV) (L:List E),e=.returned (.pointer (some ⟨bb,0,none⟩))∧W.heap.size≤bb∧BdAt w' bb bv t L (pcsT t L) (belT t L)∧LOk t.ground L∧Below W.heap.size W w'):=yK
  λ W h ho=>zby ho W _ _ _ _ _ (hg.below h) (hk.below h) (hc.below h) hcf (hf.below h) (hb.below h)
 have HCT:Hid (∀ W,Below w.heap.size w W→Calls Tryz.prog 68 #[.slice wp ws.length wc,.func (.func 69) #[] #[]] W λ e w'=>e=.returned (.bool (badW ws))∧w'=W):=yK λ W h=>qeZ ws _ W (hw.below h) hwl;have HWS:=yK hw;have HCS:=yK hc;clear hg hk hc hf hb hcf hw;go_enter func29,ntmps29;go_wp2_with fail;have hT:=yd w (.cells #[.slice gp t.ground.length gc,.slice kp t.kinds.length kc,.slice cp t.counts.length cc,.slice fp t.fixed.length fc,.slice bp t.below.length bc] 34);have hB:Below w.heap.size w (w.alloc (.cells #[.slice gp t.ground.length gc,.slice kp t.kinds.length kc,.slice cp t.counts.length cc,.slice fp t.fixed.length fc,.slice bp t.below.length bc] 34)):=(yf _ w).alloc (ye _) _;revert hT hB;generalize w.alloc (.cells #[.slice gp t.ground.length gc,.slice kp t.kinds.length kc,.slice cp t.counts.length cc,.slice fp t.fixed.length fc,.slice bp t.below.length bc] 34)=w1;intro hT hB;have HB:=yK hB;clear hB;have htl:=(ya.1 hT).1;refine (HCK.out w1 HB.out).mono ?_;rintro e w2 ⟨code,rfl,h0,h2,hB2⟩;have hT2:=(hB2.block _ htl).trans hT;have HB2:=yK (HB.out.trans (hB2.mono HB.out.size));clear hB2 HB htl;have hcell:∀ j,w2.cell? ⟨w.heap.size,j,none⟩=(#[.slice gp t.ground.length gc,.slice kp t.kinds.length kc,.slice cp t.counts.length cc,.slice fp t.fixed.length fc,.slice bp t.below.length bc]:Array Value)[j]?:=λ j=>by simp only[World.cell?,hT2];simp
 have c0:=hcell 0;have c1:=hcell 1;have c2:=hcell 2;have c3:=hcell 3;have c4:=hcell 4;simp at c0 c1 c2 c3 c4;have HT2:=yK hT2;clear hcell hT HCK hT2;rcases h2 with rfl|rfl
 case inr =>
  have HN:Hid (¬ OkT t):=yK λ h=>absurd (h0.2 h) (by decide);clear HLY HCT h0 c0 c1 c2 c3 c4;go_wp2_with fail;go_ret2;exact⟨false,2,rfl,HB2.out,λ _=>⟨rfl,rfl⟩,λ h=>absurd h HN.out,λ h=>absurd h HN.out⟩
 case inl =>
  have HOK:Hid (OkT t):=yK (h0.1 rfl);have HL:=yK (HLY.out w2 HB2.out HOK.out);have HC2:=yK (HCT.out w2 HB2.out);clear HLY h0 HCT;by_cases hlen:ws.length=t.ground.length
  case neg =>
   have hd:((ws.length:Int) != (t.ground.length:Int))=true:=(by simp only[bne_iff_ne,ne_eq];omega);have HN:Hid (¬ fitW t ws):=yK λ h=>hlen h.1;clear hlen HL HC2;go_wp2_with fail;go_ret2;exact⟨false,4,rfl,HB2.out,λ h=>absurd HOK.out h,λ _ _=>⟨rfl,rfl⟩,λ _ h=>absurd h HN.out⟩
  have hd:((ws.length:Int) != (t.ground.length:Int))=false:=by rw[hlen];simp
  have HLEN:=yK hlen;clear hlen;go_wp2_with fail;refine HC2.out.mono ?_;rintro e w3 ⟨rfl,rfl⟩;clear HC2 hd;obtain⟨bw,hbw⟩:∃ bw,badW ws=bw:=⟨_,rfl⟩;rw[hbw];have HBW:=yK hbw;clear hbw
  cases bw with
  | true =>
   have HN:Hid (¬ fitW t ws):=yK λ h=>by
    have:=((qdS t ws).1 h).2;rw[HBW.out]at this
    cases this
   clear HL;go_wp2_with fail;go_ret2;exact⟨false,4,rfl,HB2.out,λ h=>absurd HOK.out h,λ _ _=>⟨rfl,rfl⟩,λ _ h=>absurd h HN.out⟩
  | false =>
   have HFW:Hid (fitW t ws):=yK ((qdS t ws).2 ⟨HLEN.out,HBW.out⟩);have HW64:Hid (ws.length≤64):=yK (by rw[HLEN.out];exact HOK.out.g64);clear HBW;go_wp2_with fail;refine HL.out.mono ?_;rintro e w4 ⟨bb,⟨vg,vk,vc,vf,vb,qm,em,pv,pvs⟩,L,rfl,hbb,hbd,hlok,hB4⟩;obtain⟨pp,pc,hpv⟩:=hbd.pieces.slice;simp only at hpv;subst hpv;have HB4:=yK (HB2.out.trans (hB4.mono HB2.out.size));have HLK:=yK hlok;have HBD:=yK hbd;have HWV:=yK (HWS.out.below HB4.out);have HCV:=yK (HCS.out.below HB4.out);have HT4:=yK ((hB4.block _ (ya.1 HT2.out).1).trans HT2.out);clear hB4 hlok hbd HL hbb c0 c1 c2 c3 c4 HT2 HWS HCS;have hwl:=HW64.out;go_wp2_with fail;go_loopw [8,38] (λ l z wr=>∃ k:Nat,k≤ws.length∧z=.int .i64 k∧l=.int .i64 (sumTo (λ i=>ws.getD i 0) k)∧wr=w4) (λ _ z _=>ws.length-(intOf z).toNat)
   case atStart=>exact⟨0,YC _,rfl,rfl,rfl⟩
   obtain⟨k,hk,rfl,rfl,rfl⟩:=hrel;by_cases hlt:k<ws.length
   case pos =>
    obtain⟨x,hx⟩:∃ x,ws[k]?=some x:=⟨_,yb hlt⟩;obtain⟨va,rfl,hva⟩:=HWV.out.at_ (by rintro e;rw[e]at hlt;simp at hlt);have c0:=RI.at_cell hva hx;have hb:=za8 (f:=λ i=>ws.getD i 0) (b:=1000) (n:=k) (λ i hi=>by
     simp only[yu];rw[yb (by omega),Yw];exact HFW.out.2 _ (List.getElem_mem _))
    have hxb:=HFW.out.2 x (yg hx);have HST:Hid (sumTo (λ i=>ws.getD i 0) (k+1)=sumTo (λ i=>ws.getD i 0) k+x):=yK (by
     show _+ws.getD k 0=_;rw[yu,hx];rfl)
    clear hva hx;revert HST hb;generalize sumTo (λ i=>ws.getD i 0) k=s;intro hb HST;have hw:wrap64 (s+x)=s+x:=(by unfold wrap64;omega);go_wp2_with fail
    go_roundw
    case rel=>exact⟨k+1,by omega,by go_num,by rw[HST.out],by trivial⟩
    case measure=>simp only[intOf];omega
   obtain rfl:k=ws.length:=(by omega);have hs:sumTo (λ i=>ws.getD i 0) ws.length=leftW t ws 0:=by
    rw[qbj _ _ (ye _),Yd];unfold leftW sumTo;omega
   rw[hs];have t2:wr.cell? ⟨w.heap.size,2,none⟩=some (.slice cp t.counts.length cc):=(by simp only[World.cell?,HT4.out];rfl);have hcl64:t.counts.length≤8:=(by rw[HOK.out.clen];exact HOK.out.klen.2);clear hs hlt hk;go_wp2_with fail;clear t2;obtain⟨w5,hw5⟩:∃ z,z=wr:=⟨_,rfl⟩;subst hw5;go_loopw [8,49] (λ l z wr=>∃ k:Nat,k≤t.counts.length∧z=.int .i64 k∧l=.int .i64 (leftW t ws k)∧Hid ((∀ j,j<k→lostK t j=false)∧Below w5.heap.size w5 wr)) (λ _ z _=>t.counts.length-(intOf z).toNat)
   case atStart=>exact⟨0,YC _,rfl,rfl,yK ⟨λ j hj=>by omega,yf _ _⟩⟩
   obtain⟨k,hk,rfl,rfl,HR⟩:=hrel;by_cases hlt:k<t.counts.length
   case neg =>
    obtain rfl:k=t.counts.length:=(by omega);have HREF:Hid (refT t ws=decide (leftW t ws t.counts.length<0)):=yK (by
     unfold refT;have:(List.range t.counts.length).any (lostK t)=false:=by
      rw[List.any_eq_false];intro j hj;rw[HR.out.1 j (List.mem_range.1 hj)];decide
     rw[this,Bool.false_or])
    have HBF:=yK (HB4.out.trans (HR.out.2.mono HB4.out.size));revert HREF;generalize leftW t ws t.counts.length=s;intro HREF;obtain⟨b,hb⟩:∃ b,decide (s<0)=b:=⟨_,rfl⟩;rw[hb]at HREF;clear HR hlt hk;go_wp2_with fail;go_ret2;exact⟨b,0,rfl,HBF.out,λ h=>absurd HOK.out h,λ _ h=>absurd HFW.out h,λ _ _=>⟨HREF.out.symm,rfl⟩⟩
   obtain⟨c,hc⟩:∃ c,t.counts[k]?=some c:=⟨_,yb hlt⟩;obtain⟨ca,rfl,hca⟩:=(HCV.out.below HR.out.2).at_ (by rintro e;rw[e]at hlt;simp at hlt);have c0:=RI.at_cell hca hc;have hcb:=HOK.out.cnt c (yg hc);have HGD:Hid (t.counts.getD k 0=c):=yK (by rw[yu,hc];rfl);have HSTP:Hid (leftW t ws (k+1)=leftW t ws k-needK t ws k):=yK (by
    unfold leftW;show _-(sumTo _ k+_)=_;omega)
   by_cases hc0:c=0
   case pos =>
    subst hc0;have HSN:Hid (leftW t ws (k+1)=leftW t ws k):=yK (by
     rw[HSTP.out];unfold needK;rw[HGD.out,YA rfl];omega)
    have HLO:Hid (lostK t k=false):=yK (by
     unfold lostK;rw[HGD.out];rfl)
    clear hca hc hcb HSTP;go_wp2_with fail
    go_roundw
    case rel=>exact⟨k+1,by omega,by go_num,by rw[HSN.out],yK ⟨λ j hj=>by
     rcases (by omega:j<k∨j=k)with h|rfl
     ·exact HR.out.1 j h
     exact HLO.out,HR.out.2⟩⟩
    case measure=>simp only[intOf];omega
   have hkk:k<t.kinds.length:=(by rw[← HOK.out.clen];exact hlt);obtain⟨pl,hpl⟩:∃ pl,(piecesT t)[k]?=some pl:=⟨_,yb (by rw[zA];exact hkk)⟩;have hpcs:(pcsT t L)[k]?=some (pl.map (hpT t.ground L)):=(by unfold pcsT;rw[yQ,hpl];rfl);have hpcl:(pcsT t L).length=t.kinds.length:=(by unfold pcsT;rw[yB,zA]);have HPL:Hid ((piecesT t).getD k []=pl):=yK (by rw[yu,hpl];rfl);have hbr:=HBD.out.keep HR.out.2;obtain⟨pa,pvk,hpe,hin,hiv,hcell,hhas⟩:=hbr.pieces.get hpcs;subst hpe;obtain⟨xp,xc,rfl⟩:=hhas.slice;rw[yB]at hhas hcell;have b7:wr.cell? ⟨bb,7,none⟩=some (.slice (some pa) (pcsT t L).length pc):=(by simp only[World.cell?,hbr.blk];rfl);rw[hpcl]at b7;have hcn:(c==0)=false:=(by simpa using hc0);have HHAS:=yK hhas;clear hca hc hpl hpcs hpcl hbr hhas hin hiv;by_cases hpn:pl.length=0
   case pos =>
    have HRT:Hid (refT t ws=true):=yK (by
     unfold refT;rw[Bool.or_eq_true];refine .inl (List.any_eq_true.2 ⟨k,List.mem_range.2 hlt,?_⟩);unfold lostK;rw[HGD.out,HPL.out,yT.1 hpn];simpa using hc0)
    have HBF:=yK (HB4.out.trans (HR.out.2.mono HB4.out.size));have hz:((pl.length:Int)==0)=true:=(by rw[hpn];rfl);clear HR HHAS hpn HSTP;go_wp2_with fail;go_ret2;exact⟨true,0,rfl,HBF.out,λ h=>absurd HOK.out h,λ _ h=>absurd HFW.out h,λ _ _=>⟨HRT.out.symm,rfl⟩⟩
   have hz:((pl.length:Int)==0)=false:=(by simp only[Yt,ne_eq];omega);have HLO:Hid (lostK t k=false):=yK (by
    unfold lostK;rw[HPL.out]
    cases hpe:pl with
    | nil=>rw[hpe]at hpn;exact absurd rfl hpn
    | cons a l=>simp)
   have HNK:Hid (needK t ws k=c*leastW t.ground ws pl):=yK (by
    unfold needK;rw[HGD.out,HPL.out,Yz hc0])
   have hp9:pl.length≤1000000:=by
    obtain⟨⟨s,k'⟩,_,e⟩:=yP.1 (show pl∈piecesT t by rw[← HPL.out,yu,yb (by rw[zA];exact hkk)];exact List.getElem_mem _);have:=zaV s t.ground;rw[← e];show (piecesK t.ground k' s).length≤_;unfold piecesK;rw[yB];omega
   clear hpn;go_wp2_with fail;clear b7 hcell c0 hcn hz;obtain⟨w6,hw6⟩:∃ z,z=wr:=⟨_,rfl⟩;subst hw6;have HB6:=yK HR.out.2;have HLS:=yK HR.out.1;clear HR;go_loopw [13,73] (λ u z wr=>∃ i:Nat,i≤pl.length∧z=.int .i64 i∧u=.int .i64 (leastW t.ground ws (pl.take i))∧Hid (Below w6.heap.size w6 wr)) (λ _ z _=>pl.length-(intOf z).toNat)
   case atStart=>exact⟨0,YC _,rfl,rfl,yK (yf _ _)⟩
   obtain⟨i,hi,rfl,rfl,HR⟩:=hrel;by_cases hil:i<pl.length
   case neg =>
    obtain rfl:i=pl.length:=(by omega);have hlw:leastW t.ground ws (pl.take pl.length)=leastW t.ground ws pl:=(by rw[Yd]);rw[hlw];have hl1:=zcU t.ground ws pl;have hl2:=qdd HFW.out HOK.out.g64 t.ground pl;have hl3:=zdC HOK.out HFW.out (show k≤t.counts.length from hk);have hl4:=zdC HOK.out HFW.out (show k+1≤t.counts.length by omega);rw[HSTP.out,HNK.out]at hl4;have HEND:Hid (leftW t ws k-c*leastW t.ground ws pl=leftW t ws (k+1)):=yK (by rw[HSTP.out,HNK.out]);clear hlw hil hi;revert HEND hl1 hl2 hl3 hl4;generalize leastW t.ground ws pl=m;generalize leftW t ws k=s;intro hl1 hl2 hl3 hl4 HEND;have hw1:wrap64 (c*m)=c*m:=by
     unfold wrap64;have:=Int.mul_le_mul_of_nonneg_left hl1 hcb.1;have:=Int.mul_le_mul_of_nonneg_left hl2 hcb.1;omega
    have hw2:wrap64 (s-c*m)=s-c*m:=(by unfold wrap64;omega);go_wp2_with fail
    go_roundw
    case rel=>exact⟨k+1,by omega,by go_num,by rw[HEND.out],yK ⟨λ j hj=>by
     rcases (by omega:j<k∨j=k)with h|rfl
     ·exact HLS.out j h
     exact HLO.out,HB6.out.trans (HR.out.mono HB6.out.size)⟩⟩
    case measure=>simp only[intOf];omega
   obtain⟨p,hp⟩:∃ p,pl[i]?=some p:=⟨_,yb hil⟩;obtain⟨h,hh⟩:∃ h,h=hpT t.ground L p:=⟨_,rfl⟩;have hmh:(pl.map (hpT t.ground L))[i]?=some h:=(by rw[yQ,hp,hh];rfl);obtain⟨xa,rfl,hat⟩:=(HHAS.out.below HR.out).at_ (by rintro e;rw[e]at hmh;simp at hmh);have hld:(Instr.loadAt 152 (.pointer (some (xa.add (i*9))))).run Tryz.prog wr=.ok (.agg (hpVals h).toArray) wr:=qj (P:=Tryz.prog) underlying152 rfl sizeP hat hmh;have HLW:Hid (leastW t.ground ws (pl.take (i+1))=min (leastW t.ground ws (pl.take i)) (wP t.ground ws p)):=yK (by rw[qo hp,zeB]);have HSET:Hid (h.set=setG (λ q=>decide (q∈p.qs)) t.ground):=yK (by rw[hh];rfl);have hs64:h.set<2 ^ 64:=(by rw[hh];exact qaP HOK.out.g64 _);clear hp hmh hat hh;have hsz:(Tryz.prog.info? 152).map (·.size)=some (hpVals h).toArray.size:=sizeP;have hone:(hpVals h).toArray.all (·.oneCell')=true:=(by simp[hpVals,Value.oneCell']);go_upto_region 23 with (first
    | (refine zl rfl 152 _ rfl rfl hld ?_)
    | (refine wpList_store_row rfl 152 _ _ rfl wr.heap.size rfl 152 _ (hpVals h).toArray rfl (yd wr _) hsz rfl hone ?_;rw[World.setRow_alloc_new]))
   have hC:=yd wr (.cells (hpVals h).toArray 152);have hB1:Below wr.heap.size wr (wr.alloc (.cells (hpVals h).toArray 152)):=(yf _ wr).alloc (ye _) _;have HB7:=yK (HR.out.trans (hB1.mono HR.out.size));revert hC HB7;generalize wr.alloc (.cells (hpVals h).toArray 152)=w7;generalize wr.heap.size=kb;intro hC HB7;have k5:w7.cell? ⟨kb,5,none⟩=some (.int .u64 h.set):=(by simp only[World.cell?,hC];rfl);have HV7:=yK (HWV.out.below (HB6.out.trans (HB7.out.mono HB6.out.size)));clear hC hB1 hld hsz hone HR
   try simp only[Act.put]
   go_wp2_with fail;go_loopw [16,79] (λ u z wq=>∃ j:Nat,j≤ws.length∧z=.int .i64 j∧u=.int .i64 (sumTo (bitW t.ground ws p) j)∧wq=w7) (λ _ z _=>ws.length-(intOf z).toNat)
   case atStart=>exact⟨0,YC _,rfl,rfl,rfl⟩
   obtain⟨j,hj,rfl,rfl,rfl⟩:=hrel;by_cases hjl:j<ws.length
   case pos =>
    obtain⟨x,hx⟩:∃ x,ws[j]?=some x:=⟨_,yb hjl⟩;obtain⟨q,hq⟩:∃ q,t.ground[j]?=some q:=⟨_,yb (by have:=HLEN.out;omega)⟩;obtain⟨va,rfl,hva⟩:=HV7.out.at_ (by rintro e;rw[e]at hjl;simp at hjl);have c0:=RI.at_cell hva hx;have hxb:=HFW.out.2 x (yg hx);have hsb:=qf5 HFW.out t.ground p j (by omega);have HBIT:Hid (bits .and .u64 ((h.set:Int) / 2 ^ j) 1=((if q∈p.qs then 1 else 0:Nat):Int)):=yK (by
     rw[zeS hs64,HSET.out,qA,hq];by_cases hm:q∈p.qs
     ·simp[hm]
     simp[hm])
    have HST:Hid (sumTo (bitW t.ground ws p) (j+1)=sumTo (bitW t.ground ws p) j+if q∈p.qs then x else 0):=yK (by
     show _+bitW t.ground ws p j=_;unfold bitW;rw[yu,hq,yu,hx];rfl)
    clear hva hx hq;revert HST hsb;generalize sumTo (bitW t.ground ws p) j=s;intro hsb HST;go_wp2_with fail;refine⟨⟨j+1,by omega,by go_num,?_,by trivial⟩,by simp only[intOf];omega⟩;rw[HBIT.out,HST.out];by_cases hm:q∈p.qs
    ·rw[YA hm,YA hm];have e1:wrap64 ((1:Nat):Int)=1:=(by unfold wrap64;omega);have e:wrap64 (s+wrap64 (x*wrap64 ((1:Nat):Int)))=s+x:=(by rw[e1,Int.mul_one];unfold wrap64;omega);rw[e]
    rw[Yz hm,Yz hm];have e1:wrap64 ((0:Nat):Int)=0:=(by unfold wrap64;omega);have e:wrap64 (s+wrap64 (x*wrap64 ((0:Nat):Int)))=s+0:=(by rw[e1,Int.mul_zero];unfold wrap64;omega);rw[e]
   obtain rfl:j=ws.length:=(by omega);have hle:sumTo (bitW t.ground ws p) ws.length=wP t.ground ws p:=rfl;rw[hle];clear hle hjl hj;revert HLW;generalize wP t.ground ws p=y;generalize leastW t.ground ws (pl.take i)=m;intro HLW;have e1:(if y<m then y else m)=min m y:=by split <;> omega
   go_wp2_with fail;exact⟨⟨i+1,by omega,by go_num,by rw[HLW.out],yK HB7.out⟩,by simp only[intOf];omega⟩
end Go.Proofs.YtiinlplgloaanaaGreatDoor
namespace Go.Proofs.YtiinlplgloaanaaGreatDoor
open Go.Proofs.Tryz Go.RowKit Go.Shelf
attribute [local go_sem] Oper.semAt_some
theorem CopyT.keep {w W W':World} {ug uk uc uf ub:Value} {us:List Value} {t:Tk} (h:CopyT w W ug uk uc uf ub us t) (e:Below W.heap.size W W'):CopyT w W' ug uk uc uf ub us t :=
 ⟨h.ground.below e,OwnQQ.below h.kinds e,qf h.counts e,qf h.fixed e,qf h.below e,h.old.trans (e.mono h.old.size)⟩
theorem qe6 {l:List Int} (hl:l.length≤1000000) (W:World) (p:Option Addr) (c:Nat) (hv:RI.Has W (.slice p l.length c) l) :
  ∃ vg W2,(Builtin.append_ #[30,30] 30 #[.slice (some ⟨W.heap.size,0,none⟩) 0 0,.slice p l.length c]).run Tryz.prog (W.alloc (.cells #[] 3))=.ok vg W2∧RI.Own W2 W.heap.size vg l∧Below W.heap.size W W2 :=
 qcf RI (by decide) underlying30 8 (zbV zcl rfl) (by decide) (λ W b=>by simp[Builtin.append_,go_sem]) hl W p c hv
end Go.Proofs.YtiinlplgloaanaaGreatDoor
