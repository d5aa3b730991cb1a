/- Chapter 7 in the heap: Order, of any task, any bricks, and whatever is told. -/
import Derived.Test.YtiinlplgloaanaaGreatDoorZzLayerTouches45
import Derived.Test.YtiinlplgloaanaaGreatDoorZzLayerTouches46
import Derived.Shelf.Spec.SlicesGrow
set_option linter.all false
set_option maxRecDepth 100000
set_option maxHeartbeats 16000000
namespace Go.Proofs.YtiinlplgloaanaaGreatDoor
open Go.Proofs.Tryz Go.RowKit
attribute [local go_sem] Oper.semAt_some
structure KnT (w W:World) (tb:Nat) (g k c:Value) (us:List Value):Prop where
 task:W.heap[tb]?=some (.cells #[g,k,c,.slice none 0 0,.slice none 0 0] 34 (0,0))
 ground:OwnQ W w.heap.size g (qF 2 2)
 kinds:OwnQQ W w.heap.size k us [qF 2 1]
 counts:RI.Own W w.heap.size c [2]
 below:Bw w W
 tbw:w.heap.size<=tb
theorem KnT.keep {w W W':World} {tb:Nat} {g k c:Value} {us:List Value} (h:KnT w W tb g k c us) (e:Bw W W'):KnT w W' tb g k c us :=
 ⟨(e.block _ (ya.1 h.task).1).trans h.task,h.ground.below e,OwnQQ.below h.kinds e,qf h.counts e,h.below.tm e,h.tbw⟩
theorem eP {W:World} {base:Nat} {v:Value} {l:List Ld} (h:RL.Own W base v l) (hl:l≠[]):∃ g c,v=.slice (some ⟨g,0,none⟩) l.length c/\∀ j,j<l.length*5->W.cell? ⟨g,j,none⟩=(RL.cells l)[j]?:=by
 rcases h.2 with⟨_,A⟩|⟨g,cap,cur,rfl,h1,h2,h3,h4,h5⟩
 ·exact kV (yT.1 A) hl
 exact⟨g,cap,rfl,λ j hj=>World.ownsRow.cellAt h j hj⟩
theorem wn {w w2:World} {g k:Value} {z:Array Value} (hb:Bw w w2) (hg:OwnQ w2 w.heap.size g (qF 2 2)) (hk:OwnQ w2 w.heap.size k (qF 2 1)) :
  KnT w ((((w2.alloc (.cells #[k] 22)).alloc (.cells #[.int .i64 2] 3)).alloc (.cells z 34)).setRow (w2.heap.size+1+1) #[g,.slice (some ⟨w2.heap.size,0,none⟩) 1 1,.slice (some ⟨w2.heap.size+1,0,none⟩) 1 1,.slice none 0 0,.slice none 0 0]) (w2.heap.size+1+1) g (.slice (some ⟨w2.heap.size,0,none⟩) 1 1) (.slice (some ⟨w2.heap.size+1,0,none⟩) 1 1) [k]:=by
 have D:(((w2.alloc (.cells #[k] 22)).alloc (.cells #[.int .i64 2] 3)).alloc (.cells z 34)).heap[w2.heap.size]?=some (.cells #[k] 22 (0,0)):=heapO _ (zZ w2 _ _).1;have B:(((w2.alloc (.cells #[k] 22)).alloc (.cells #[.int .i64 2] 3)).alloc (.cells z 34)).heap[w2.heap.size+1]?=some (.cells #[.int .i64 2] 3 (0,0)):=heapO _ (zZ w2 _ _).2.1;have C:=db w2 (.cells #[k] 22) (.cells #[.int .i64 2] 3) (.cells z 34);have H:Bw w2 (((w2.alloc (.cells #[k] 22)).alloc (.cells #[.int .i64 2] 3)).alloc (.cells z 34)):=(zZ w2 _ _).2.2.alloc (zZ w2 _ _).2.2.size _;revert D B C H;generalize (((w2.alloc (.cells #[k] 22)).alloc (.cells #[.int .i64 2] 3)).alloc (.cells z 34))=A;intro D B C H;have F:Bw w2 (A.setRow (w2.heap.size+1+1) #[g,.slice (some ⟨w2.heap.size,0,none⟩) 1 1,.slice (some ⟨w2.heap.size+1,0,none⟩) 1 1,.slice none 0 0,.slice none 0 0]):=zi H (by omega) _;have G:=hb.size;refine⟨setRow_heap _ _ _ _ _ _ C,hg.below F,⟨⟨rfl,.inr ⟨w2.heap.size,1,#[k],rfl,G,(setRow_other _ _ _ _ (by omega)).trans D,ye _,by decide,rfl,rfl⟩⟩,rfl,λ i u l hu hl=>?_⟩,⟨rfl,.inr ⟨w2.heap.size+1,1,#[.int .i64 2],rfl,by omega,(setRow_other _ _ _ _ (by omega)).trans B,ye _,by decide,rfl,rfl⟩⟩,hb.trans (F.mono G),by omega⟩
 cases i with
 | zero =>
  simp only[kK,yo]at hu hl;subst hu hl;exact hk.below F
 | succ i=>simp at hu
theorem vX {W:World} {base g n c:Nat} {l:List Ld} (h:RL.Own W base (.slice (some ⟨g,0,none⟩) n c) l) (h1:1<=l.length:=by decide):RL.Has W (.slice (some ⟨g,0,none⟩) 1 c) (l.take 1):=by
 have A:(l.take 1).length=1:=by rw[Ye];omega
 rcases (REnc.Own.has (R:=RL) (l:=l) (show W.ownsRow base _ _ (.slice (some ⟨g,0,none⟩) n c) _ _ from h))with⟨B,_⟩|⟨a,cap,h1',h2,h3,h4⟩
 ·cases B
 simp only[yC,yo]at h1';obtain⟨rfl,_,rfl⟩:=h1';refine .inr ⟨_,c,by rw[A],by rw[A];omega,h3,λ _=>h4.lt (by rintro rfl;simp at h1),λ i x hx j u hu=>?_⟩;refine h4.at_ i x ?_ j u hu;rw[YU]at hx;split at hx
 ·exact hx
 cases hx
theorem yk {W:World} {base g n c:Nat} {l:List Ld} (h:RL.Own W base (.slice (some ⟨g,0,none⟩) n c) l):l.length<=c:=by
 rcases h.2 with⟨A,_⟩|⟨g',cap,cur,hv,_,_,h3,_⟩
 ·cases A
 simp only[yC]at hv;obtain⟨_,_,rfl⟩:=hv;exact h3
theorem xz {P:Program} {C:World->Prop} {o:Oper} {a:Act} {K:Act->Prop} {x y:Operand} {T e:TypeId} {g n cap k s:Nat} (ho:o.op=.slice T x none (some y) none) (hx:a.eval x=.slice (some ⟨g,0,none⟩) n cap) (hy:a.eval y=.int .i64 (k:Int)) (hk:k<=cap)
  (ht0:P.underlying T=some (.slice e)) (hs0:∀ W,(sizeOf e).run P W=.ok s W) (hK:K (a.put o.dst (.slice (some ⟨g,0,none⟩) k cap))):o.quiet P a C K:=by
 have A:P.elem T=e:=by simp[Program.elem,ht0]
 have B:P.underlying T=some (.slice (P.elem T)):=by rw[A];exact ht0
 have D:∀ W,(sizeOf (P.elem T)).run P W=.ok s W:=λ W=>by rw[A];exact hs0 W
 refine⟨.slice (some ⟨g,0,none⟩) k cap,λ w hc=>?_,hK⟩;unfold Oper.quietAt execOp;simp only[ho,Option.map_none,kr,yG,hx,hy];rw[run_sliceAt_slice w T _ _ _ _ B,run_slice_h w T _ _ _ B .i64 (k:Int) (by omega) (by omega),D];simp only[yz,yH,YI,re];exact⟨rfl,rfl⟩
def knF (tb sz:Nat) (kv:Value):Nat->(Nat->Value)->World->Prop
 | 0,v,W=>OwnQ W sz (v 0) (qF 3 1)
 | 1,v,_=>v 1=.pointer (some ⟨tb,1,none⟩)
 | 2,v,_=>v 2=kv
 | 3,v,W=>RI.Own W sz (v 3) [2]
 | 4,v,_=>v 4=.agg #[v 0,v 2,v 3,.slice none 0 0,.slice none 0 0]
 | 5,v,_=>v 5=.tuple #[.int .i64 2,.int .i64 0]
 | 6,v,_=>v 6=.tuple #[.int .i64 2,.int .i64 0]
 | 7,v,_=>v 7=.int .i64 2
 | 8,v,_=>v 8=.int .i64 0
 | 9,v,_=>v 9=.int .i64 2
 | 10,v,_=>v 10=.int .i64 0
 | _,_,_=>True
def knR:Nat->List Nat
 | 4=>[0,2,3]
 | _=>[]
theorem CT {tb sz:Nat} {kv:Value}:∀ i v v' W,(∀ j,(j=i\/j∈knR i)->v j=v' j)->knF tb sz kv i v W->knF tb sz kv i v' W:=by
 intro i v v' W h hF;have A:=h i (.inl rfl)
 match i,h,A,hF with
 | 0,_,A,hF|1,_,A,hF|2,_,A,hF|3,_,A,hF|5,_,A,hF|6,_,A,hF|7,_,A,hF|8,_,A,hF|9,_,A,hF|10,_,A,hF =>
  simp only[knF]at hF ⊢;rw[<- A];exact hF
 | 4,h,A,hF =>
  simp only[knF]at hF ⊢;rw[<- A,<- h 0 (.inr (by simp[knR])),<- h 2 (.inr (by simp[knR])),<- h 3 (.inr (by simp[knR]))];exact hF
 | n+11,_,_,_=>trivial
theorem gA {tb sz:Nat} {kv:Value} {v:Nat->Value} {W W':World} (hB:Bw W W'):∀ {i},knF tb sz kv i v W->knF tb sz kv i v W':=by
 intro i hF
 match i,hF with
 | 1,hF|2,hF|4,hF|5,hF|6,hF|7,hF|8,hF|9,hF|10,hF=>exact hF
 | 0,hF=>exact qf hF hB
 | 3,hF=>exact qf hF hB
 | n+11,_=>trivial
theorem sy (w:World) (htb:TbAt w):Calls Tryz.prog 22 #[] w λ e w'=>e=.returned (.bool true)/\Bw w w':=by
 have G8:=yK htb;clear htb;have F9:Hid (Calls Tryz.prog 63 #[.int .i64 2,.int .i64 2] w λ e w'=>∃ u,e=.returned u/\OwnQ w' w.heap.size u (qF 2 2)/\Bw w w'):=yK (iu 2 2 (by decide) (by decide) w);have F2:Hid (∀ W,Calls Tryz.prog 63 #[.int .i64 2,.int .i64 1] W λ e w'=>∃ u,e=.returned u/\OwnQ w' W.heap.size u (qF 2 1)/\Bw W w'):=yK λ W=>iu 2 1 (by decide) (by decide) W;have G4:Hid (∀ W,Calls Tryz.prog 63 #[.int .i64 3,.int .i64 1] W λ e w'=>∃ u,e=.returned u/\OwnQ w' W.heap.size u (qF 3 1)/\Bw W w'):=yK λ W=>iu 3 1 (by decide) (by decide) W;generalize D2:(λ (e:Ending) (w':World)=>e=.returned (.bool true)/\Bw w w')=Po;have G5:=yK D2;clear D2;go_enter func22,ntmps22;go_wp2_with fail;refine F9.o.mono ?_;rintro e w1 ⟨u1,rfl,C7,E8⟩;obtain⟨gp,gc,rfl⟩:=zf C7;have D7:=yK C7;have B5:=yK E8;clear C7 E8 F9;go_wp2_with fail;refine(F2.o w1).mono ?_;rintro e w2 ⟨u2,rfl,B8,C3⟩;obtain⟨kp,kc,rfl⟩:=zf B8;have H1:=yK B8;have E7:=yK (D7.o.below C3);have G1:=yK (B5.o.tm C3);have E4:=yK B5.o.size;clear B8 C3 F2 D7 B5;go_upto_region 2 with(refine wpList_store_row rfl 34 _ _ rfl (w2.heap.size+1+1) rfl 34 _ #[.slice gp (qF 2 2).length gc,.slice (some ⟨w2.heap.size,0,none⟩) 1 1,.slice (some ⟨w2.heap.size+1,0,none⟩) 1 1,.slice none 0 0,.slice none 0 0] rfl (db _ _ _ _) sizeTask rfl (by simp[Value.oneCell']) ?_);simp only[Act.put,yr,yF,yE];have f:=wn (z:=#[.slice none 0 0,.slice none 0 0,.slice none 0 0,.slice none 0 0,.slice none 0 0]) G1.o E7.o (qA H1.o (by have:=E4.o;exact this));revert f;generalize (((w2.alloc (.cells #[.slice kp (qF 2 1).length kc] 22)).alloc (.cells #[.int .i64 2] 3)).alloc (.cells #[.slice none 0 0,.slice none 0 0,.slice none 0 0,.slice none 0 0,.slice none 0 0] 34)).setRow (w2.heap.size+1+1) #[.slice gp (qF 2 2).length gc,.slice (some ⟨w2.heap.size,0,none⟩) 1 1,.slice (some ⟨w2.heap.size+1,0,none⟩) 1 1,.slice none 0 0,.slice none 0 0]=w3;generalize w2.heap.size+1+1=tb;generalize I0:(Value.slice (some ⟨w2.heap.size+1,0,none⟩) 1 1)=cv;generalize I3:(Value.slice (some ⟨w2.heap.size,0,none⟩) 1 1)=kv;generalize H7:(Value.slice gp (qF 2 2).length gc)=gv;intro f;have C0:=yK f;have F7:Hid (∀ W,Bw w W->TbAt W):=yK λ W h=>G8.o.below h;have C:Hid (∀ W,KnT w W tb gv kv cv [.slice kp (qF 2 1).length kc]->HasQ W gv zU.ground/\HasQQ W kv zU.kinds/\RI.Has W cv zU.counts/\flatV cv/\RL.Has W (.slice none 0 0) zU.fixed/\RE.Has W (.slice none 0 0) zU.below/\TbAt W):=yK λ W h =>
  ⟨h.ground.has,ik h.kinds,REnc.Own.has h.counts,fh h.counts,.inl ⟨rfl,rfl⟩,.inl ⟨rfl,rfl⟩,F7.o W h.below⟩
 have A6:Hid (∀ W,KnT w W tb gv kv cv [.slice kp (qF 2 1).length kc]->Calls Tryz.prog 11 #[.agg #[gv,kv,cv,.slice none 0 0,.slice none 0 0]] W λ e w'=>e=.returned (.tuple #[.int .i64 2,.int .i64 1,.int .i64 5,.int .i64 0])/\Bw W w'):=yK λ W h=>by
  obtain⟨a1,a2,a3,a4,s,y,a7⟩:=C.o W h;refine(vR (t:=zU) W _ _ _ _ _ a1 a2 a3 a4 s y (by decide) (by decide) a7).mono ?_;rintro e w' ⟨all,I2,G6,H,rfl,a,h4,_⟩;have J:=h4 dI;rw[rL]at J;simp only[YW]at J;obtain⟨rfl,rfl,rfl,rfl⟩:=J;exact⟨rfl,a⟩
 have A8:Hid (∀ W,KnT w W tb gv kv cv [.slice kp (qF 2 1).length kc]->Calls Tryz.prog 15 #[.agg #[gv,kv,cv,.slice none 0 0,.slice none 0 0]] W λ e w'=>∃ v,e=.returned (.tuple #[v,.int .i64 0])/\RL.Own w' W.heap.size v tilA/\Bw W w'):=yK λ W h=>by
  obtain⟨a1,a2,a3,a4,s,y,a7⟩:=C.o W h;refine(ji (t:=zU) W _ _ _ _ _ a1 a2 a3 a4 s y (by decide) (by decide) a7).mono ?_;rintro e w' ⟨v,H,rfl,a,h4,_⟩;obtain⟨J,h6⟩:=h4 dI;rw[wQ]at J h6;subst h6;exact⟨v,rfl,J,a⟩
 have p:Hid (∀ W v x,KnT w W tb gv kv cv [.slice kp (qF 2 1).length kc]->RL.Has W v x->x.length<=16->coversT zU x=(0,0)->Calls Tryz.prog 28 #[.agg #[gv,kv,cv,.slice none 0 0,.slice none 0 0],v] W λ e w'=>∃ u,e=.returned (.tuple #[u,.int .i64 (nextT zU (parts zU x)).2])/\RL.Own w' W.heap.size u (nextT zU (parts zU x)).1/\Bw W w'):=yK λ W v x h hv h16 h0=>by
  obtain⟨a1,a2,a3,a4,s,y,a7⟩:=C.o W h;refine(sg (t:=zU) W _ _ _ _ _ v a1 a2 a3 a4 s y (by decide) (by decide) a7 x (by omega) hv).mono ?_;rintro e w' ⟨u,H,rfl,a,X⟩;rcases X with⟨_,X⟩|⟨_,_,_,J,h6⟩
  ·rcases X with⟨Y,_⟩|⟨_,Y,_⟩|⟨_,_,Y,_⟩
   ·exact kV dI Y
   ·omega
   exact kV h0 Y
  subst h6;exact⟨u,rfl,J,a⟩
 have F3:=f.task;clear f;go_wp2_with (refine Ya rfl 34 _ rfl tb rfl 34 #[gv,kv,cv,.slice none 0 0,.slice none 0 0] (0,0) _ F3 underlying34 rfl sizeTask ?_);refine(A6.o w3 C0.o).mono ?_;rintro e w4 ⟨rfl,D0⟩;have R:=yK (C0.o.keep D0);have E5:=R.o.task;clear D0 F3 C0 A6;go_wp2_with (refine Ya rfl 34 _ rfl tb rfl 34 #[gv,kv,cv,.slice none 0 0,.slice none 0 0] (0,0) _ E5 underlying34 rfl sizeTask ?_);refine(A8.o w4 R.o).mono ?_;rintro e w5 ⟨vl,rfl,C8,D5⟩;have O:=yK (R.o.keep D5);have F1:=O.o.task;have B6:=yK C8;clear D5 E5 R A8 C8;have C9:Hid (Calls Tryz.prog 28 #[.agg #[gv,kv,cv,.slice none 0 0,.slice none 0 0],vl] w5 λ e w'=>∃ u,e=.returned (.tuple #[u,.int .i64 0])/\RL.Own w' w5.heap.size u tilB/\Bw w5 w'):=yK (by
  have:=p.o w5 vl tilA O.o (REnc.Own.has B6.o) (by decide) fM.1;rw[lg.1]at this;exact this)
 go_wp2_with (refine Ya rfl 34 _ rfl tb rfl 34 #[gv,kv,cv,.slice none 0 0,.slice none 0 0] (0,0) _ F1 underlying34 rfl sizeTask ?_);refine C9.o.mono ?_;rintro e w6 ⟨vm,rfl,D6,B3⟩;have N:=yK (O.o.keep B3);have D8:=N.o.task;have D1:=yK (qf B6.o B3);have B4:=yK D6;clear B3 F1 O C9 D6 B6;have F0:Hid (Calls Tryz.prog 28 #[.agg #[gv,kv,cv,.slice none 0 0,.slice none 0 0],vm] w6 λ e w'=>∃ u,e=.returned (.tuple #[u,.int .i64 7])/\RL.Own w' w6.heap.size u []/\Bw w6 w'):=yK (by
  have:=p.o w6 vm tilB N.o (REnc.Own.has B4.o) (by decide) fM.2.1;rw[lg.2]at this;exact this)
 go_wp2_with (refine Ya rfl 34 _ rfl tb rfl 34 #[gv,kv,cv,.slice none 0 0,.slice none 0 0] (0,0) _ D8 underlying34 rfl sizeTask ?_);refine F0.o.mono ?_;rintro e w7 ⟨vz,rfl,_,A1⟩;have G:=yK (N.o.keep A1);have H3:=G.o.task;have A4:=yK (qf D1.o A1);have A2:=yK (qf B4.o A1);clear A1 D8 N F0 p D1 B4;obtain⟨gl,cl,rfl,S⟩:=eP A4.o (by decide);obtain⟨gm,cm,rfl,A⟩:=eP A2.o (by decide);have l5:w7.cell? ⟨gl,5,none⟩=some (.int .i64 0):=S 5 (by decide);have l6:w7.cell? ⟨gl,6,none⟩=some (.bool false):=S 6 (by decide);have l7:w7.cell? ⟨gl,7,none⟩=some (.int .i64 0):=S 7 (by decide);have l8:w7.cell? ⟨gl,8,none⟩=some (.int .i64 0):=S 8 (by decide);have l9:w7.cell? ⟨gl,9,none⟩=some (.int .i64 1):=S 9 (by decide);have m5:w7.cell? ⟨gm,5,none⟩=some (.int .i64 0):=A 5 (by decide);have m6:w7.cell? ⟨gm,6,none⟩=some (.bool false):=A 6 (by decide);have m7:w7.cell? ⟨gm,7,none⟩=some (.int .i64 1):=A 7 (by decide);have m8:w7.cell? ⟨gm,8,none⟩=some (.int .i64 1):=A 8 (by decide);have m9:w7.cell? ⟨gm,9,none⟩=some (.int .i64 0):=A 9 (by decide);have q1:(Op.equalIn 10000 50 (.agg #[.int .i64 0,.bool false,.int .i64 0,.int .i64 0,.int .i64 1]) (.agg #[.int .i64 0,.bool false,.int .i64 0,.int .i64 0,.int .i64 1])).run Tryz.prog w7=.ok true w7:=dM ⟨0,false,0,0,1⟩ ⟨0,false,0,0,1⟩ w7;have q2:(Op.equalIn 10000 50 (.agg #[.int .i64 0,.bool false,.int .i64 1,.int .i64 1,.int .i64 0]) (.agg #[.int .i64 0,.bool false,.int .i64 1,.int .i64 1,.int .i64 0])).run Tryz.prog w7=.ok true w7:=dM ⟨0,false,1,1,0⟩ ⟨0,false,1,1,0⟩ w7;clear S A;simp only[show tilA.length=2 from rfl,show tilB.length=2 from rfl]at A4 A2 ⊢;go_upto_region 8 with fail;have A9:Hid (Calls Tryz.prog 32 #[.agg #[gv,kv,cv,.slice none 0 0,.slice none 0 0],.int .i64 2] w7 λ e w'=>∃ (u:Value) (us:List Value),e=.returned (.tuple #[u,.int .i64 0])/\OwnLs RL 31 w' w7.heap.size u us [tilA,tilB]/\Bw w7 w'):=yK (by
  obtain⟨a1,a2,a3,a4,s,y,a7⟩:=C.o w7 G.o;refine(AS (t:=zU) 2 w7 _ _ _ _ _ a1 a2 a3 a4 s y (by decide) (by decide) a7).mono ?_;rintro e w' ⟨u,us,H,rfl,a,X⟩;rcases X with⟨_,X⟩|⟨_,_,_,J,h6⟩
  ·rcases X with⟨Y,_⟩|⟨_,Y,_⟩
   ·exact kV dI Y
   exact kV Y (by decide)
  rw[show (2:Int).toNat=2 from rfl,xk]at J h6;subst h6;exact⟨u,us,rfl,J,a⟩)
 have A5:=G.o.task;clear l5 l6 l7 l8 l9 m5 m6 m7 m8 m9 q1 q2 H3;go_wp2_with (refine Ya rfl 34 _ rfl tb rfl 34 #[gv,kv,cv,.slice none 0 0,.slice none 0 0] (0,0) _ A5 underlying34 rfl sizeTask ?_);refine A9.o.mono ?_;rintro e w8 ⟨vp,H9,rfl,C6,A3⟩;have M:=yK (G.o.keep A3);have B2:=yK (qf A4.o A3);have E9:=yK (qf A2.o A3);have E1:=yK C6;obtain⟨H6,H4,x1,rfl,C5,_,_⟩:=C6.at (i:=1) (l:=tilB) rfl;clear A3 C6 A5 G A4 A2 A9 C5;go_upto_region 9 with fail;have V:=M.o.task;have t0:∀ d:SubW w8,d.1.cell? ⟨tb,0,none⟩=some gv:=λ d=>by simp[World.cell?,d.block V]
 have t1:∀ d:SubW w8,d.1.cell? ⟨tb,1,none⟩=some kv:=λ d=>by simp[World.cell?,d.block V]
 have t2:∀ d:SubW w8,d.1.cell? ⟨tb,2,none⟩=some cv:=λ d=>by simp[World.cell?,d.block V]
 have t3:∀ d:SubW w8,d.1.cell? ⟨tb,3,none⟩=some (.slice none 0 0):=λ d=>by simp[World.cell?,d.block V]
 have t4:∀ d:SubW w8,d.1.cell? ⟨tb,4,none⟩=some (.slice none 0 0):=λ d=>by simp[World.cell?,d.block V]
 have C4:Hid (∀ d:SubW w8,Calls Tryz.prog 19 #[.agg #[gv,kv,cv,.slice none 0 0,.slice none 0 0],.slice (some ⟨gl,0,none⟩) 1 cl] d.1 λ e w'=>e=.returned (.tuple #[.int .i64 4,.int .i64 8,.int .i64 0])/\∃ d':SubW w8,w'=d'.1):=yK λ d=>by
  obtain⟨a1,a2,a3,a4,s,y,a7⟩:=C.o d.1 (M.o.keep d.2);refine(zP (t:=zU) d.1 _ _ _ _ _ (.slice (some ⟨gl,0,none⟩) 1 cl) a1 a2 a3 a4 s y (by decide) (by decide) a7 (tilA.take 1) (by decide) (vX (qf B2.o d.2))).mono ?_;rintro e w' ⟨n,i,H,rfl,a,_,_,X⟩;obtain⟨Y,h2⟩:=X dI (by decide);rw[fM.2.2]at Y;simp only[YW]at Y;obtain⟨rfl,rfl⟩:=Y;subst h2;exact⟨rfl,⟨w',d.2.tm a⟩,rfl⟩
 clear V;have H2:Hid (1<=cl):=yK (by have:=yk B2.o;have h2:tilA.length=2:=rfl;omega);refine zg 11 (by kernel_rfl) (by kernel_rfl) ?_;simp only[yh,yj,yi,yl]
 repeat(go_big_quiet_step (exact C4.o _))
 go_big_quiet_want;refine xz (T:=31) (g:=gl) (n:=2) (cap:=cl) (k:=1) rfl rfl rfl H2.o underlying31 sizeOf50 ?_;simp only[Act.put,yr,yF,yE];go_big_quiet_on
 repeat(go_big_quiet_step (exact C4.o _))
 refine wpQuiet_nil ?_;intro dq;have D:=yK (M.o.keep dq.2);have B7:=yK (qf E9.o dq.2);have C2:=yK (E1.o.below dq.2);clear t0 t1 t2 t3 t4 C4 M E9 B2 E1;revert D B7 C2;generalize dq.1=w9;intro D B7 C2;go_upto_region 10 with fail;have B0:Hid (∀ W ug uc,KnT w W tb gv kv cv [.slice kp (qF 2 1).length kc]->OwnQ W w9.heap.size ug (qF 3 1)->RI.Own W w9.heap.size uc [2]->Calls Tryz.prog 24 #[.agg #[ug,kv,uc,.slice none 0 0,.slice none 0 0]] W λ e w'=>e=.returned (.tuple #[.int .i64 2,.int .i64 0])/\Bw W w'):=yK λ W ug uc h hu X=>by
  obtain⟨a1,a2,a3,a4,s,y,a7⟩:=C.o W h;refine(tV (t:=zeO) W ug _ uc _ _ hu.has a2 (REnc.Own.has X) (fh X) s y (by decide) (by decide) a7).mono ?_;rintro e w' ⟨r,H,rfl,a,h4,_⟩;have J:=h4 Bd;rw[Bn]at J;simp only[YW]at J;obtain⟨rfl,rfl⟩:=J;exact⟨rfl,a⟩
 have B:=@CT tb w9.heap.size kv;have F:∀ L L' W,(∀ j,L j=true->L' j=true)->(λ _ W=>Bw w9 W:(Nat->Bool)->World->Prop) L W->(λ _ W=>Bw w9 W:(Nat->Bool)->World->Prop) L' W:=λ _ _ _ _ h=>h;refine zO 164 (by kernel_rfl) (by kernel_rfl) rfl (FamJ (knF tb w9.heap.size kv) (λ _=>[]) knR (λ _ W=>Bw w9 W)) (FamJ.start ((yf _ w9).drew) _) ?_ ?_
 ·refine⟨?_,?_,?_,?_,?_,?_,?_,?_,?_,?_,?_,trivial⟩
  ·intro Z b W vals hL hD hC K hJ;refine zS (args:=#[.int .i64 3,.int .i64 1]) rfl (by simp only[Yt,yM,Yh];rfl) (enters_of func63 (by kernel_rfl) rfl) ((G4.o W).mono ?_);rintro e W' ⟨u,rfl,ho,hb⟩;exact⟨u,rfl,hJ.step B hL (by intro j hj;simp[knR]at hj) (hJ.base.tm hb) (qA ho hJ.base.size) (λ k hk hd hF=>gA hb hF)⟩
  ·intro Z b W vals hL hD hC K hJ;have e1:b.eval (.tmp 1)=(.pointer (some ⟨tb,0,none⟩)):=(K.was 1 (by kernel_rfl)).trans rfl;refine lu_v (I:=Instr.fieldAt 34 (b.eval (.tmp 1)) 1) rfl (u:=_) ?_ (hJ.still B F hL (by intro j hj;simp[knR]at hj) rfl);rw[e1];kernel_rfl
  ·intro Z b W vals hL hD hC K hJ;obtain⟨F8,_⟩:=K.val 1 112 (by kernel_rfl);have f1:=hJ.get 1 (hD 1 (by kernel_rfl)) (by intro j hj;simp at hj);refine lu_v (I:=Instr.loadAt 29 (b.eval (.tmp 112))) rfl ?_ (hJ.still B F hL (by intro j hj;simp[knR]at hj) rfl);rw[F8,f1];exact qh isAgg29 (by have:=(D.o.keep hJ.base).task;simp only[World.cell?,this];rfl)
  ·intro Z b W vals hL hD hC K hJ;obtain⟨iI,G2,G9,C1,H5⟩:=info_parts aH;refine qV (u:=.int .i64 2) rfl rfl underlying30 G2 G9 (by rw[C1];decide) (by rw[C1];decide) (cells:=([.int .i64 2]:List Value).toArray) (by rw[C1];exact Great.fill_flat [.int .i64 2] _ (λ v hv=>by simp only[yU]at hv;subst hv;rfl) (by simp)) ?_;have hb:Bw W (W.alloc (.cells ([.int .i64 2]:List Value).toArray 3)):=(yf _ W).alloc (ye _) _;exact hJ.step B hL (by intro j hj;simp[knR]at hj) (hJ.base.tm hb) (show World.ownsRow _ _ _ _ _ _ _ from⟨rfl,.inr ⟨W.heap.size,1,#[.int .i64 2],rfl,hJ.base.size,yd W _,ye _,by decide,rfl,rfl⟩⟩) (λ k hk hd hF=>gA hb hF)
  ·intro Z b W vals hL hD hC K hJ;obtain⟨E2,_⟩:=K.val 0 111 (by kernel_rfl);obtain⟨D3,_⟩:=K.val 2 113 (by kernel_rfl);obtain⟨D4,_⟩:=K.val 3 114 (by kernel_rfl);have f0:=hJ.get 0 (hD 0 (by kernel_rfl)) (by intro j hj;simp at hj);have f2:=hJ.get 2 (hD 2 (by kernel_rfl)) (by intro j hj;simp at hj);have f3:=hJ.get 3 (hD 3 (by kernel_rfl)) (by intro j hj;simp at hj);obtain⟨p0,c0,h0⟩:=zf f0;obtain⟨p3,c3,h3⟩:=zf f3;have g2:vals 2=kv:=f2;obtain⟨pk,ck,hk⟩:=zf D.o.kinds.row;refine qQ (W':=W) (v:=.agg #[vals 0,vals 2,vals 3,.slice none 0 0,.slice none 0 0]) ?_ (hJ.still B F hL (by intro j hj;simp[knR]at hj;rcases hj with rfl|rfl|rfl <;> exact hD _ (by kernel_rfl)) rfl)
   unfold execOp;have G3:=run_build (P:=Tryz.prog) W 34 #[(0,vals 0),(1,vals 2),(2,vals 3)] #[vals 0,vals 2,vals 3,.slice none 0 0,.slice none 0 0] (by rw[h0,g2,hk,h3];kernel_rfl);simp only[Yt,yM,Yh,E2,D3,D4,yG,G3,yz,yH]
  ·intro Z b W vals hL hD hC K hJ;obtain⟨F5,_⟩:=K.val 4 115 (by kernel_rfl);have f4:=hJ.get 4 (hD 4 (by kernel_rfl)) (by intro j hj;simp at hj);have B9:=(hJ.each 4 (hD 4 (by kernel_rfl))).1;have f0:=hJ.get 0 (B9 0 (by simp[knR])) (by intro j hj;simp at hj);have f2:=hJ.get 2 (B9 2 (by simp[knR])) (by intro j hj;simp at hj);have f3:=hJ.get 3 (B9 3 (by simp[knR])) (by intro j hj;simp at hj);have g4:vals 4=.agg #[vals 0,vals 2,vals 3,.slice none 0 0,.slice none 0 0]:=f4;have g2:vals 2=kv:=f2;refine zS (args:=#[.agg #[vals 0,kv,vals 3,.slice none 0 0,.slice none 0 0]]) rfl (by simp only[Yt,yM,Yh,F5,g4,g2]) (enters_of func24 (by kernel_rfl) rfl) ((B0.o W _ _ (D.o.keep hJ.base) f0 f3).mono ?_);rintro e W' ⟨rfl,hb⟩;exact⟨_,rfl,hJ.step B hL (by intro j hj;simp[knR]at hj) (hJ.base.tm hb) rfl (λ k hk hd hF=>gA hb hF)⟩
  ·intro Z b W vals hL hD hC K hJ;obtain⟨F4,_⟩:=K.val 5 116 (by kernel_rfl);have f5:=hJ.get 5 (hD 5 (by kernel_rfl)) (by intro j hj;simp at hj);refine qE rfl ?_;have g5:vals 5=.tuple #[.int .i64 2,.int .i64 0]:=f5;rw[F4,g5];exact(hJ.still B F hL (by intro j hj;simp[knR]at hj) rfl)
  ·intro Z b W vals hL hD hC K hJ;obtain⟨c,_⟩:=K.val 6 110 (by kernel_rfl);have f6:=hJ.get 6 (hD 6 (by kernel_rfl)) (by intro j hj;simp at hj);refine lu_v (I:=Instr.extract (b.eval (.tmp 110)) 0) (u:=.int .i64 2) rfl ?_ (hJ.still B F hL (by intro j hj;simp[knR]at hj) rfl);have g6:vals 6=.tuple #[.int .i64 2,.int .i64 0]:=f6;rw[c,g6];exact qU rfl _
  ·intro Z b W vals hL hD hC K hJ;obtain⟨c,_⟩:=K.val 6 110 (by kernel_rfl);have f6:=hJ.get 6 (hD 6 (by kernel_rfl)) (by intro j hj;simp at hj);refine lu_v (I:=Instr.extract (b.eval (.tmp 110)) 1) (u:=.int .i64 0) rfl ?_ (hJ.still B F hL (by intro j hj;simp[knR]at hj) rfl);have g6:vals 6=.tuple #[.int .i64 2,.int .i64 0]:=f6;rw[c,g6];exact qU rfl _
  ·intro Z b W vals hL hD hC K hJ;obtain⟨E0,_⟩:=K.val 7 117 (by kernel_rfl);have f7:=hJ.get 7 (hD 7 (by kernel_rfl)) (by intro j hj;simp at hj);refine dE rfl ?_;have g:vals 7=.int .i64 2:=f7;rw[E0,g];exact(hJ.still B F hL (by intro j hj;simp[knR]at hj) rfl)
  intro Z b W vals hL hD hC K hJ;obtain⟨D9,_⟩:=K.val 8 118 (by kernel_rfl);have f8:=hJ.get 8 (hD 8 (by kernel_rfl)) (by intro j hj;simp at hj);refine dE rfl ?_;have g:vals 8=.int .i64 0:=f8;rw[D9,g];exact(hJ.still B F hL (by intro j hj;simp[knR]at hj) rfl)
 intro Z vals W hL hJ;have f9:=hJ.get 9 (hL 9 (by decide)) (by intro j hj;simp at hj);have E6:=hJ.get 10 (hL 10 (by decide)) (by intro j hj;simp at hj);have h9:vals 9=.int .i64 2:=f9;have G0:vals 10=.int .i64 0:=E6;have A0:Bw w9 W:=hJ.base;have m:=yK (D.o.keep A0);have A7:=qf B7.o A0;have B1:=C2.o.below A0;obtain⟨x1,C5,q,_,F6⟩:=B1.get (i:=1) (l:=tilB) rfl;obtain⟨gx,cx,rfl,U⟩:=eP F6 (by decide);obtain⟨I1,H8,E3,A⟩:=eP A7 (by decide);simp only[yC,yo,Addr.mk.injEq,and_true]at E3;obtain⟨rfl,H0,rfl⟩:=E3;clear H0;have m0:W.cell? ⟨gm,0,none⟩=some (.int .i64 0):=A 0 (by decide);have m1:W.cell? ⟨gm,1,none⟩=some (.bool false):=A 1 (by decide);have m2:W.cell? ⟨gm,2,none⟩=some (.int .i64 1):=A 2 (by decide);have m3:W.cell? ⟨gm,3,none⟩=some (.int .i64 0):=A 3 (by decide);have m4:W.cell? ⟨gm,4,none⟩=some (.int .i64 0):=A 4 (by decide);have x0:W.cell? ⟨gx,0,none⟩=some (.int .i64 0):=U 0 (by decide);have x1:W.cell? ⟨gx,1,none⟩=some (.bool false):=U 1 (by decide);have x2:W.cell? ⟨gx,2,none⟩=some (.int .i64 1):=U 2 (by decide);have x3:W.cell? ⟨gx,3,none⟩=some (.int .i64 0):=U 3 (by decide);have x4:W.cell? ⟨gx,4,none⟩=some (.int .i64 0):=U 4 (by decide);have q1:∀ W,(Op.equalIn 10000 50 (.agg #[.int .i64 0,.bool false,.int .i64 1,.int .i64 0,.int .i64 0]) (.agg #[.int .i64 0,.bool false,.int .i64 1,.int .i64 0,.int .i64 0])).run Tryz.prog W=.ok true W:=λ W=>dM ⟨0,false,1,0,0⟩ ⟨0,false,1,0,0⟩ W;simp only[show tilB.length=2 from rfl]at q;clear hJ hL f9 E6 A0 A7 B1 C5 F6 U A B F B0;simp only[yA,yN,Yk,YD,Yj,Yf,yM,Yh,putAll,Act.put,yr,yF,yE,h9,G0];clear h9 G0;go_upto_region 11 with fail;refine zu 45 (by kernel_rfl) (by kernel_rfl) ?_;simp only[yh,yj,yi,yl]
 repeat(go_big_quiet_step (fail))
 refine wpQuiet_nil ?_;intro nq;have G7:=yK (m.o.below.trans ((below_drewN _ W nq).mono m.o.below.size));clear m0 m1 m2 m3 m4 x0 x1 x2 x3 x4 q1 q;go_wp2_with fail;rw[<- G5.o];exact⟨rfl,G7.o⟩
theorem rS {t:Tk} (ho:OkT t) {i:Nat} {x:List Pc} (h:(tilingsT t).1[i]?=some x):FullT t x/\parts t (x.map (·.ld))=x/\coversT t (x.map (·.ld))=(0,0)/\x.length<=16:=by
 have A:=full_of ho (yg h);exact⟨A,dt A.good.mem,AL ho A,mx ho A.toTlT⟩
end Go.Proofs.YtiinlplgloaanaaGreatDoor
namespace Go.Proofs
open Go.Shelf
def Tryz.laysGrow_ren:Go.Shelf.Ren:=⟨λ|4=>115|n=>n,λ|22=>30|25=>3|3=>3|4=>4|9=>9|20=>20|0=>0|n=>n,λ|n=>n⟩
theorem Tryz.laysGrow:Go.Proofs.Lays8.n4 Tryz.prog Tryz.laysGrow_ren:={
 mixed:=by kernel_rfl
 f4:=⟨Tryz.f115.name,by decide,func115.trans (YA some (by kernel_rfl))⟩
 t0:=underlying0
 a0:=isAgg0
 z0:=sizeOf0
 v0:=zeroValue0
 t3:=underlying3
 a3:=isAgg3
 z3:=sizeOf3
 v3:=zeroValue3
 t4:=underlying4
 a4:=isAgg4
 z4:=sizeOf4
 v4:=zeroValue4
 t9:=underlying9
 a9:=isAgg9
 z9:=sizeOf9
 v9:=zeroValue9
 t20:=underlying20
 a20:=isAgg20
 z20:=sizeOf20
 v20:=zeroValue20
 t22:=underlying30
 a22:=isAgg30
 z22:=sizeOf30
 v22:=zeroValue30 }
end Go.Proofs
namespace Go.Proofs.YtiinlplgloaanaaGreatDoor
open Go.Proofs.Tryz Go.RowKit
def touchP (a b:Pc):Bool:=(borderE a.qs).any λ e=>decide (e∈borderE b.qs)
def touchO (T:List Pc) (out:List Nat) (n:Nat):Bool:=out.any λ m=>touchP (T.getD m pc0) (T.getD n pc0)
def nextO (T:List Pc) (done out:List Nat):Nat:=match (List.range T.length).find? (λ n=>decide (n∉done)&&touchO T out n)with
 | some n=>n
 | none=>((List.range T.length).find? λ n=>decide (n∉done)).getD 0
def layO (T:List Pc):Nat->List Nat->List Nat->List Nat
 | 0,_,out=>out
 | k+1,done,out=>layO T k (nextO T done out :: done) (out++[nextO T done out])
def tellO (n:Nat):List Nat->List Int->Nat
 | _,[]=>0
 | done,x :: l=>if 0<=x/\x<n then(if x.toNat∈done then 6 else tellO n (x.toNat :: done) l)else 7
def toldO (l:List Int):List Nat:=(l.map Int.toNat).reverse
def orderT (T:List Pc) (first last:List Int):List Int × Nat :=
 if tellO T.length [] (first++last)=0 then((layO T (T.length-first.length-last.length) (toldO (first++last)) (first.map Int.toNat)).map (λ n:Nat=>(n:Int))++last,0)else([],tellO T.length [] (first++last))
theorem gF {n:Nat}:∀ {l:List Int} {done:List Nat},tellO n done l=0->(∀ x∈l,0<=x/\x<n)/\(l.map Int.toNat).Nodup/\∀ x∈l,x.toNat∉done
 | [],done,_=>⟨λ x h=>(by cases h),List.nodup_nil,λ x h=>(by cases h)⟩
 | x :: l,done,h=>by
  unfold tellO at h;split at h
  ·rename_i hx;split at h
   ·cases h
   rename_i hd;obtain⟨h1,h2,h3⟩:=gF h;refine⟨λ y hy=>?_,?_,λ y hy=>?_⟩
   ·rcases Yd.1 hy with rfl|hy
    ·exact hx
    exact h1 y hy
   ·rw[yM,List.nodup_cons];refine⟨λ hm=>?_,h2⟩;obtain⟨y,hy,e⟩:=yP.1 hm;exact h3 y hy (by rw[e];simp)
   rcases Yd.1 hy with rfl|hy
   ·exact hd
   exact λ hm=>h3 y hy (Ym _ hm)
  cases h
theorem nO {n:Nat}:∀ {l:List Int} {done:List Nat},tellO n done l=0\/tellO n done l=6\/tellO n done l=7
 | [],done=>.inl rfl
 | x :: l,done=>by
  unfold tellO;split
  ·split
   ·exact .inr (.inl rfl)
   exact nO
  exact .inr (.inr rfl)
theorem pN {n:Nat}:∀ {l:List Int} {done:List Nat},(∀ x∈l,0<=x/\x<n)->tellO n done l≠7
 | [],done,_=>by unfold tellO;decide
 | x :: l,done,h=>by
  unfold tellO;rw[Yz (h x (by simp))];split
  ·decide
  exact pN λ y hy=>h y (Ym _ hy)
theorem pF {n:Nat} {done:List Nat} (h:done.length<n):∃ m,m<n/\m∉done:=by
 refine Classical.byContradiction λ hc=>?_;have A:=aY (l:=List.range n) (m:=done) List.nodup_range λ x hx=>by
  refine Classical.byContradiction λ hd=>hc ⟨x,kO.1 hx,hd⟩
 rw[yZ]at A;omega
theorem pW {T:List Pc} {done out:List Nat} (h:∃ m,m<T.length/\m∉done):nextO T done out<T.length/\nextO T done out∉done/\((∃ m,m<T.length/\m∉done/\touchO T out m=true)->touchO T out (nextO T done out)=true):=by
 unfold nextO
 cases hf:(List.range T.length).find? (λ n=>decide (n∉done)&&touchO T out n)with
 | some n =>
  have A:=List.find?_some hf;have B:=List.mem_of_find?_eq_some hf;simp only[Yq,yS]at A;exact⟨kO.1 B,A.1,λ _=>A.2⟩
 | none =>
  rw[kR]at hf;simp only;obtain⟨m,C,hd⟩:=h
  cases hg:(List.range T.length).find? (λ n=>decide (n∉done))with
  | none =>
   rw[kR]at hg;exact kV (yw hd) (hg m (kO.2 C))
  | some n =>
   have A:=List.find?_some hg;have B:=List.mem_of_find?_eq_some hg;simp only[yS]at A;refine⟨kO.1 B,A,λ ⟨x,hx,hxd,hxt⟩=>?_⟩;exact kV (by rw[yw hxd,hxt];rfl) (hf x (kO.2 hx))
theorem mK {T:List Pc}:∀ (k:Nat) (done out:List Nat),done.length+k<=T.length->∃ mid:List Nat,layO T k done out=out++mid/\mid.length=k/\mid.Nodup/\(∀ m∈mid,m<T.length/\m∉done) /\
  ∀ (i m:Nat),mid[i]?=some m->(∃ x,x<T.length/\x∉done/\x∉mid.take i/\touchO T (out++mid.take i) x=true)->touchO T (out++mid.take i) m=true
 | 0,done,out,_=>⟨[],by unfold layO;simp,rfl,List.nodup_nil,λ m h=>(by cases h),λ i m h=>(by simp at h)⟩
 | k+1,done,out,h=>by
  obtain⟨n1,n2,n3⟩:=pW (T:=T) (out:=out) (pF (n:=T.length) (done:=done) (by omega));unfold layO;generalize nextO T done out=n at *;obtain⟨mid,h1,h2,h3,h4,h5⟩:=mK (T:=T) k (n :: done) (out++[n]) (by rw[yA];omega);refine⟨n :: mid,by rw[h1];simp,by rw[yA,h2],?_,λ m hm=>?_,λ i m hm hx=>?_⟩
  ·rw[List.nodup_cons];exact⟨λ hn=>(h4 n hn).2 (by simp),h3⟩
  ·rcases Yd.1 hm with rfl|hm
   ·exact⟨n1,n2⟩
   exact⟨(h4 m hm).1,λ hd=>(h4 m hm).2 (Ym _ hd)⟩
  cases i with
  | zero =>
   simp only[kK,yo]at hm;subst hm;obtain⟨x,a1,a2,a3,a4⟩:=hx;rw[yj,List.append_nil]at a4 ⊢;exact n3 ⟨x,a1,a2,a4⟩
  | succ i =>
   rw[kJ]at hm;rw[yh]at hx ⊢;have e:out++n :: mid.take i=out++[n]++mid.take i:=(by simp);rw[e]at hx ⊢;refine h5 i m hm ?_;obtain⟨x,a1,a2,a3,a4⟩:=hx;exact⟨x,a1,λ hd=>by
    rcases Yd.1 hd with rfl|hd
    ·exact a3 (by simp)
    exact a2 hd,λ hd=>a3 (Ym _ hd),a4⟩
theorem sM {T:List Pc} {first last:List Int} (h:tellO T.length [] (first++last)=0):∃ mid:List Nat,(orderT T first last)=(((first.map Int.toNat)++mid++last.map Int.toNat).map (λ n:Nat=>(n:Int)),0) /\
  ((first.map Int.toNat)++mid++last.map Int.toNat).length=T.length/\((first.map Int.toNat)++mid++last.map Int.toNat).Nodup/\(∀ m∈(first.map Int.toNat)++mid++last.map Int.toNat,m<T.length) /\
  (first=[]->last=[]->∀ (i m:Nat),mid[i]?=some m->(∃ x,x<T.length/\x∉mid.take i/\touchO T (mid.take i) x=true)->touchO T (mid.take i) m=true):=by
 obtain⟨D,F,_⟩:=gF h;have C:(first++last).length<=T.length:=by
  have:=aY (l:=(first++last).map Int.toNat) (m:=List.range T.length) F λ x A=>by
   obtain⟨y,G,rfl⟩:=yP.1 A;have:=D y G;rw[kO];omega
  rwa [yB,yZ]at this
 rw[yL]at C;obtain⟨mid,K,L,J,H,M⟩:=mK (T:=T) (T.length-first.length-last.length) (toldO (first++last)) (first.map Int.toNat) (by unfold toldO;rw[List.length_reverse,yB,yL];omega);have B:∀ m,m∈toldO (first++last)↔m∈first.map Int.toNat\/m∈last.map Int.toNat:=λ m=>by
  unfold toldO;rw[List.mem_reverse,Yl,yY]
 rw[Yl]at F;obtain⟨u1,u2,u3⟩:=ko.1 F;refine⟨mid,?_,?_,?_,λ m hm=>?_,λ hf hl i m hm A=>?_⟩
 ·unfold orderT;rw[Yz h,K];have e:(last.map Int.toNat).map (λ n:Nat=>(n:Int))=last:=by
   rw[kl];refine(Kb (g:=id) λ x A=>?_).trans (Kc _);have:=D x (by simp[A]);show ((x.toNat:Nat):Int)=x;omega
  simp only[Yl,e]
 ·simp only[yL,yB,L];omega
 ·rw[kw,ko];refine⟨u1,ko.2 ⟨J,u2,λ a ha b hb e=>?_⟩,λ a ha b hb e=>?_⟩
  ·subst e;exact(H a ha).2 ((B a).2 (.inr hb))
  subst e;rcases yY.1 hb with hb|hb
  ·exact(H a hb).2 ((B a).2 (.inl ha))
  exact u3 a ha a hb rfl
 ·have I:∀ (l:List Int),(∀ x∈l,0<=x/\x<(T.length:Int))->∀ y∈l.map Int.toNat,y<T.length:=λ l hl y G=>by
   obtain⟨x,A,rfl⟩:=yP.1 G;have:=hl x A;omega
  rcases yY.1 hm with hm|hm
  ·rcases yY.1 hm with hm|hm
   ·exact I first (λ x A=>D x (by simp[A])) m hm
   exact(H m hm).1
  exact I last (λ x A=>D x (by simp[A])) m hm
 ·subst hf hl;have:=M i m hm;simp only[Yh,Yj,toldO,List.reverse_nil,List.append_nil,ki,not_false_eq_true,true_and]at this;exact this A
theorem BQ {s:List Q} {ls:List (List Q)} (h:IsPieces s s.length ls) (h1:ls.length=1) {p q:Q} (hp:p∈s) (hq:q∈s):Conn s p q:=by
 obtain⟨l,rfl⟩:=List.length_eq_one_iff.1 h1;obtain⟨L,H,J,D,C⟩:=gS h;obtain⟨n,a,G,I,F,K,B⟩:=C 0 l rfl;have A:=λ x=>An h x;simp only[List.flatten_cons,List.flatten_nil,List.append_nil]at A;exact((B p).1 ((A p).2 hp)).symm.trans ((B q).1 ((A q).2 hq))
theorem rZ {l:List Q} (hq:∀ q∈l,inQ q) (e:E):e∈borderE l↔oneP (whoE l e)=true:=ce hq (p:=oneP) (by rfl) e
theorem vN {s:List Q} {P:Q->Prop} {p q:Q} (h:Conn s p q) (hp:P p) (hq:¬ P q):∃ a b,a∈s/\b∈s/\P a/\¬ P b/\shareE a b:=by
 induction h with
 | refl _=>exact kV hp hq
 | @step q r h1 h2 h3 ih =>
  by_cases hq':P q
  ·exact⟨q,r,h1.right,h2,hq',hq,h3⟩
  exact ih hq'
theorem nY {t:Tk} (ho:OkT t) {l:List Q} (hl:∀ q∈l,q∈t.ground) (hn:l.Nodup) {a b:Q} (ha:a∈l) (hb:b∉l) (hbg:b∈t.ground) {e:E} (h1:e∈edgesQ a) (h2:e∈edgesQ b):e∈borderE l:=by
 have B:=(qj ho.ground).1;have A:∀ q∈l,inQ q:=λ q hq=>B.1 q (hl q hq);rw[rZ A];unfold oneP;rw[yS];have D:=gW (f:=b :: l) (List.nodup_cons.2 ⟨hb,hn⟩) (λ q hq=>by
  rcases Yd.1 hq with rfl|hq
  ·exact B.1 q hbg
  exact A q hq) e
 have C:whoE (b :: l) e=b :: whoE l e:=by unfold whoE;rw[List.filter_cons_of_pos (by simpa using h2)]
 rw[C,yA]at D;have F:0<(whoE l e).length:=List.length_pos_of_mem (a:=a) (by unfold whoE;exact YZ.2 ⟨ha,by simpa using h1⟩);omega
theorem jl {t:Tk} (ho:OkT t) {p:Pc} (hp:p∈(piecesT t).flatten):p.qs.Nodup/\(∀ q∈p.qs,q∈t.ground):=by
 obtain⟨B,A,C⟩:=bG ho (x:=[p]) ⟨λ q hq=>by rw[yU]at hq;subst hq;exact hp,by unfold ApartT;simp⟩;simp only[yM,Yh,List.flatten_cons,List.flatten_nil,List.append_nil]at B A;exact⟨B,A⟩
theorem xH {t:Tk} (ho:OkT t) {T:List Pc} (hT:TlT t T) (hc:∀ p∈t.ground,∀ q∈t.ground,Conn t.ground p q) {S:List Nat} (hS:∀ m∈S,m<T.length) (hne:S≠[]) {x:Nat} (hx:x<T.length) (hxS:x∉S):∃ y,y<T.length/\y∉S/\touchO T S y=true:=by
 obtain⟨X,_,W⟩:=cY ho.kinds ho.clen;have A:∀ i (B:i<T.length),T[i]∈(piecesT t).flatten:=λ i B=>hT.good.mem _ (kH B);have G:∀ i j (B:i<T.length) (C:j<T.length),i≠j->∀ q∈T[i].qs,q∉T[j].qs:=λ i j B C D q h1 h2=>by
  have Y:=YJ.1 hT.good.apart;rcases Nat.lt_or_gt_of_ne D with h|h
  ·exact Y i j B C h q h1 h2
  exact Y j i C B h q h2 h1
 obtain⟨m,O⟩:=YF S hne;obtain⟨c,M⟩:=YF _ (X _ (A m (hS m O)));obtain⟨V,N⟩:=YF _ (X _ (A x hx));obtain⟨a,b,d,Z,⟨i,B,F,K⟩,R,e,J,L⟩:=vN (P:=λ q=>∃ i,∃ B:i<T.length,i∈S/\q∈T[i].qs) (hc c (W _ (A m (hS m O)) c M) V (W _ (A x hx) V N)) ⟨m,hS m O,O,M⟩ (λ ⟨i,B,F,hq⟩=>by
  by_cases h:i=x
  ·subst h;exact hxS F
  exact G i x B hx h V hq N)
 have U:=hT.full;unfold fullT at U;rw[YH]at U;obtain⟨P,k,H⟩:=aX.1 (U b Z);obtain⟨j,C,rfl⟩:=YO k;have I:j∉S:=λ h=>R ⟨j,C,h,H⟩;have D:i≠j:=λ h=>by subst h;exact I F
 obtain⟨l,f⟩:=jl ho (A i B);obtain⟨g,n⟩:=jl ho (A j C);refine⟨j,C,I,?_⟩;unfold touchO;rw[YN];refine⟨i,F,?_⟩;unfold touchP;rw[YN,yu,yb B,yu,yb C];simp only[Yv];exact⟨e,nY ho f l K (G j i C B (λ h=>D h.symm) b H) Z J L,yw (nY ho n g H (G i j B C D a K) d L J)⟩
theorem CH {t:Tk} (ho:OkT t) {x:List Pc} {p:Pc} (h:GoodT t (x++[p])) {a:Pc} (ha:a∈x) (ht:touchP a p=true):(jointE (x.map (·.qs))).length<(jointE ((x++[p]).map (·.qs))).length:=by
 have K:GoodT t x:=⟨λ q hq=>h.mem q (by simp[hq]),(kW.1 h.apart).1⟩;obtain⟨Y,V,_⟩:=bG ho K;obtain⟨P,T,X⟩:=bG ho h;have L:=(qj ho.ground).1;have D:∀ q∈(x.map (·.qs)).flatten,inQ q:=λ q hq=>L.1 q (V q hq);have F:∀ q∈((x++[p]).map (·.qs)).flatten,inQ q:=λ q hq=>L.1 q (T q hq);unfold touchP at ht;rw[YN]at ht;obtain⟨e,R,A⟩:=ht;have A:e∈borderE p.qs:=by simpa using A
 have B:∀ q∈p.qs,inQ q:=λ q hq=>F q (by simp[hq]);have U:∀ e,e∈jointE (x.map (·.qs))↔jointT x e=true:=λ e=>by rw[ip D,lA ho K]
 have O:∀ e,e∈jointE ((x++[p]).map (·.qs))↔jointT (x++[p]) e=true:=λ e=>by rw[ip F,lA ho h]
 have C:e∉jointE (x.map (·.qs)):=λ hj=>by
  have H:=(ip D e).1 hj;have M:(whoE (x.map (·.qs)).flatten e).length=2:=by
   revert H
   cases M:whoE (x.map (·.qs)).flatten e with
   | nil=>intro h;simp[jointP]at h
   | cons a l =>
    cases l with
    | nil=>intro h;simp[jointP]at h
    | cons b l =>
     cases l with
     | nil=>intro _;rfl
     | cons c l=>intro h;simp[jointP]at h
  obtain⟨r,S,G⟩:=iD B A;have J:=gW P F e;have W:whoE ((x++[p]).map (·.qs)).flatten e=whoE (x.map (·.qs)).flatten e++whoE p.qs e:=by
   unfold whoE;rw[Yl,List.flatten_append,kf];simp
  rw[W,yL,M]at J;have:0<(whoE p.qs e).length:=List.length_pos_of_mem (a:=r) (by unfold whoE;exact YZ.2 ⟨S,by simpa using G⟩);omega
 have I:e∈jointE ((x++[p]).map (·.qs)):=by
  rw[O];unfold jointT;rw[yS,kf,yL,List.filter_cons_of_pos (by simpa using A)];have:0<(x.filter λ p=>decide (e∈borderE p.qs)).length:=List.length_pos_of_mem (a:=a) (YZ.2 ⟨ha,by simpa using R⟩);simp only[kZ,yA,yN];omega
 have:=aY (l:=e :: jointE (x.map (·.qs))) (m:=jointE ((x++[p]).map (·.qs))) (List.nodup_cons.2 ⟨C,vv D⟩) λ y hy=>by
  rcases Yd.1 hy with rfl|hy
  ·exact I
  rw[O];have N:=(U y).1 hy;unfold jointT at N ⊢;rw[yS]at N ⊢;rw[kf,yL];omega
 rw[yA]at this;omega
end Go.Proofs.YtiinlplgloaanaaGreatDoor
namespace Go.Proofs.YtiinlplgloaanaaGreatDoor
open Go.Proofs.Tryz Go.RowKit Go.Shelf
attribute [local go_sem] Oper.semAt_some
theorem CopyT.keep {w W W':World} {ug uk uc uf ub:Value} {us:List Value} {t:Tk} (h:CopyT w W ug uk uc uf ub us t) (e:Bw W W'):CopyT w W' ug uk uc uf ub us t :=
 ⟨h.ground.below e,OwnQQ.below h.kinds e,qf h.counts e,qf h.fixed e,qf h.below e,h.old.tm e⟩
theorem uY {l:List Int} (hl:l.length<=1000000) (W:World) (p:Option Addr) (c:Nat) (hv:RI.Has W (.slice p l.length c) l) :
  ∃ vg W2,(Builtin.append_ #[30,30] 30 #[.slice (some ⟨W.heap.size,0,none⟩) 0 0,.slice p l.length c]).run Tryz.prog (W.alloc (.cells #[] 3))=.ok vg W2/\RI.Own W2 W.heap.size vg l/\Bw W W2 :=
 fU RI (by decide) underlying30 8 (eo aH rfl) (by decide) (λ W b=>by simp[Builtin.append_,go_sem]) hl W p c hv
theorem AD (l:List Int) (v:Value) (w:World) (h:RI.Has w v l) (hl:l.length<=1000000) :
  Calls Tryz.prog 80 #[v] w λ e w'=>∃ u,e=.returned u/\RI.Own w' w.heap.size u l/\Bw w w':=by
 rcases h with⟨rfl,rfl⟩|⟨a,cap,rfl,hlc,hcm,hat⟩
 case inl =>
  go_enter func80,ntmps80;have G:(binOp .eql 30 (.slice none 0 0) (.slice none 0 0)).run Tryz.prog w=.ok (.bool true) w:=by kernel_rfl
  go_wp2_with fail;go_ret;exact⟨_,rfl,RI.own_nil _ _,yf _ _⟩
 case inr =>
  obtain⟨H,I,B,A,F⟩:=uY hl w (some a) cap (.inr ⟨a,cap,rfl,hlc,hcm,hat⟩);have C:=yK B;have D:=yK (YP A F);clear B A F hat;go_enter func80,ntmps80;have G:(binOp .eql 30 (.slice (some a) l.length cap) (.slice none 0 0)).run Tryz.prog w=.ok (.bool false) w:=by kernel_rfl
  go_wp2_with (first|(at_builtin;refine cM rfl _ _ 30 rfl rfl rfl C.o ?_));go_ret;exact⟨_,rfl,D.o.1,D.o.2⟩
theorem CW (n:Nat) (hn:n<=1000000) (w:World) :
  Calls Tryz.prog 115 #[.slice none 0 0,.int .i64 n] w λ e w'=>∃ u,e=.returned u/\RI.Own w' w.heap.size u []/\Bw w w':=by
 obtain⟨H,C,F,G,B⟩:=info_parts aH;by_cases h0:n=0
 ·subst h0;refine Calls.mono (Any8.slices_Grow_room Tryz.laysGrow none 0 0 0 w (ye _) (by decide) (by decide) (by decide)) ?_;rintro e w' ⟨rfl,rfl⟩;exact⟨_,rfl,RI.own_nil _ _,yf _ _⟩
 ·refine Calls.mono (Any8.slices_Grow_grow Tryz.laysGrow H _ C F (by rw[G];decide) none 0 0 n [] w (ye _) (by omega) (by rw[B];omega) (by omega) (by simp) (λ _=>rfl) (λ a h=>by cases h)) ?_;rintro e w' ⟨rfl,rfl⟩;have D:=grownCap_ge w (0+n) 0 (Tryz.laysGrow_ren.t 25);have A:=grownCap_le_maxLen w (0+n) 0 (Tryz.laysGrow_ren.t 25) (by simp only[maxLen];omega);have hd:Bw w w.drew:=(yf _ w).drew;refine⟨_,rfl,⟨rfl,.inr ⟨w.heap.size,_,_,rfl,ye _,yd w.drew _,YB _,A,?_,rfl⟩⟩,hd.alloc (ye _) _⟩;simp only[Array.size_append,size_zeroCells];simp[Value.cells,RI];have e:0+n=n:=by omega
  rw[e]at D A;omega
theorem jh {xs l:List Int} (hl:xs.length+l.length<=1000000) {base:Nat} {W:World} (hbase:base<=W.heap.size) {v:Value} (hv0:RI.Own W base v xs) (p:Option Addr) (c:Nat) (hv:RI.Has W (.slice p l.length c) l) :
  ∃ vg W2,(Builtin.append_ #[30,30] 30 #[v,.slice p l.length c]).run Tryz.prog W=.ok vg W2/\RI.Own W2 base vg (xs++l)/\W.grownBy W2 v.ownBlock:=by
 obtain⟨K,B,D,C,F⟩:=info_parts aH;rcases hv with⟨A,H⟩|⟨a,cap,A,H,h3,h4⟩
 ·subst H;simp only[yC,yN,true_and]at A;obtain⟨rfl,rfl⟩:=A;obtain⟨q,d,rfl⟩:=zf hv0;rw[List.append_nil];have N:xs.length<=d:=by
   rcases hv0.2 with⟨h,R⟩|⟨g,cap,cur,h,_,_,h3,_⟩
   ·omega
   simp only[yC]at h;omega
  exact⟨_,_,by cases q <;> simp[Builtin.append_,go_sem] <;> omega,hv0,World.grownBy.refl _ _⟩
 ·simp only[yC,true_and]at A;obtain⟨rfl,rfl⟩:=A;obtain⟨M,G,O,L,J,_,_⟩:=run_append_own_at (P:=Tryz.prog) W base 30 30 3 K _ 1 8 underlying30 B D C F rfl (by decide) v xs.length (RI.cells xs) hv0 a l.length c (RI.cells l) (RI.cells_length l) (bj (by decide) h4) (λ u hu=>by obtain⟨x,_,I⟩:=kX.1 hu;exact RI.one x u I) (by simp only[maxLen];omega) (by omega) hbase;refine⟨M,G,O,?_,J⟩;have e:RI.cells (xs++l)=RI.cells xs++RI.cells l:=by simp[REnc.cells]
  show G.ownsRow _ _ _ _ _ _;rw[e,yL];exact L
def catN (a b:List Int):Nat->List Int
 | 0=>[]
 | 1=>a
 | _=>a++b
theorem AU (a b:List Int) (u v:Value) (g:Nat) (w:World) (hg:w.heap[g]?=some (.cells #[u,v] 30 (0,0))) (ha:RI.Has w u a) (hb:RI.Has w v b) (hal:a.length<=100000) (hbl:b.length<=100000) :
  Calls Tryz.prog 79 #[.slice (some ⟨g,0,none⟩) 2 2] w λ e w'=>∃ x,e=.returned x/\RI.Own w' w.heap.size x (a++b)/\Bw w w':=by
 obtain⟨V,P,rfl⟩:=ha.slice;obtain⟨R,O,rfl⟩:=hb.slice;have F:=CW (a.length+b.length) (by omega) w;rw[Ke]at F;have d:=yK F;clear F;have t:=yK ha;have y:=yK hb;have i:=yK hg;have T:w.cell? ⟨g,0,none⟩=some (.slice V a.length P):=by simp only[World.cell?,hg];rfl
 have U:w.cell? ⟨g,1,none⟩=some (.slice R b.length O):=by simp only[World.cell?,hg];rfl
 clear ha hb hg;go_enter func79,ntmps79;go_wp2_with fail;go_loopw [3,11] (λ s z wr=>∃ k:Nat,k<=2/\z=.int .i64 k/\s=.int .i64 ((catN a b k).length:Int)/\wr=w) (λ _ z _=>2-(intOf z).toNat)
 case atStart=>exact⟨0,by omega,rfl,rfl,rfl⟩
 case round =>
  obtain⟨k,h,rfl,rfl,rfl⟩:=hrel;have G:(catN a b k).length<=200000:=by
   rcases (by omega:k=0\/k=1\/k=2)with rfl|rfl|rfl <;> simp[catN] <;> omega
  by_cases h2:k<2
  ·obtain⟨l,p,c,H,W⟩:∃ (l:List Int) (p:Option Addr) (c:Nat),(catN a b (k+1)).length=(catN a b k).length+l.length/\wr.cell? ⟨g,k,none⟩=some (.slice p l.length c):=by
    rcases (by omega:k=0\/k=1)with rfl|rfl
    ·exact⟨a,V,P,by simp[catN],T⟩
    exact⟨b,R,O,by simp[catN],U⟩
   have B:(catN a b (k+1)).length<=200000:=by
    rcases (by omega:k=0\/k=1)with rfl|rfl <;> simp[catN] <;> omega
   have D:=yK H;rw[H]at B;clear H T U;revert D B G;generalize (catN a b k).length=m;intro G B D;have hw:wrap64 ((m:Int)+(l.length:Int))=((m+l.length:Nat):Int):=(by unfold wrap64;omega);have hd:decide (((m+l.length:Nat):Int)<0)=false:=yv (by omega);go_wp2_with fail;exact⟨⟨k+1,by omega,by go_num,by rw[D.o,Ke],by trivial⟩,by simp only[intOf];omega⟩
  obtain rfl:k=2:=by omega
  have j:(catN a b 2).length=a.length+b.length:=by simp[catN]
  rw[j];clear j h2 G h;obtain⟨I,X⟩:∃ z,z=wr:=⟨_,rfl⟩;subst X;go_wp2_with fail;refine d.o.mono ?_;rintro e w1 ⟨x,rfl,Z,L⟩;have Y:Hid (RI.Own w1 I.heap.size x (catN a b 0)/\Bw I w1):=yK ⟨Z,L⟩;clear Z L d T U;go_wp2_with fail;go_loopw [6,27] (λ u z wr=>∃ k:Nat,k<=2/\z=.int .i64 k/\Hid (RI.Own wr I.heap.size u (catN a b k)/\Bw I wr)) (λ _ z _=>2-(intOf z).toNat)
  case atStart=>exact⟨0,by omega,rfl,Y⟩
  clear Y;obtain⟨k,h,rfl,A⟩:=hrel;by_cases h2:k<2
  ·obtain⟨l,p,c,H,W,C,M⟩:∃ (l:List Int) (p:Option Addr) (c:Nat),catN a b (k+1)=catN a b k++l/\wr.cell? ⟨g,k,none⟩=some (.slice p l.length c)/\RI.Has wr (.slice p l.length c) l/\(catN a b k).length+l.length<=1000000:=by
    have f:=(A.o.2.block _ (ya.1 i.o).1).trans i.o;rcases (by omega:k=0\/k=1)with rfl|rfl
    ·exact⟨a,V,P,by simp[catN],by simp only[World.cell?,f];rfl,t.o.below A.o.2,by simp[catN];omega⟩
    exact⟨b,R,O,by simp[catN],by simp only[World.cell?,f];rfl,y.o.below A.o.2,by simp[catN];omega⟩
   obtain⟨q,n,J,K,N⟩:=jh M A.o.2.size A.o.1 p c C;have S:=yK J;have r:Hid (RI.Own n I.heap.size q (catN a b (k+1))/\Bw I n):=yK ⟨by rw[H];exact K,A.o.2.grown N A.o.2.size λ b e=>(qg A.o.1 e).1⟩;clear J K N C M H A;go_wp2_with (first|(at_builtin;refine cM rfl _ _ 30 rfl rfl rfl S.o ?_));exact⟨⟨k+1,by omega,by go_num,r⟩,by simp only[intOf];omega⟩
  obtain rfl:k=2:=by omega
  go_wp2_with fail;go_ret;exact⟨_,rfl,A.o.1,A.o.2⟩
end Go.Proofs.YtiinlplgloaanaaGreatDoor
namespace Go.Proofs.YtiinlplgloaanaaGreatDoor
open Go.Proofs.Tryz Go.RowKit
attribute [local go_sem] Oper.semAt_some
theorem Cr {W:World} {a:Addr} {ps:List HP} (h:RP.At W a ps) {k:Nat} {p:HP} (hp:ps[k]?=some p):(Instr.loadAt 105 (.pointer (some ((a.add (k*9)).add 6)))).run Tryz.prog W=.ok (.agg #[.int .u64 p.bord.1,.int .u64 p.bord.2.1,.int .u64 p.bord.2.2]) W:=by
 have:=bz (P:=Tryz.prog) W ((a.add (k*9)).add 6) 105 (zad p.bord) _ (λ j v hv=>by
  rw[qO];refine h.elem hp (6+j) v ?_
  match j,hv with
  | 0,hv=>exact hv
  | 1,hv=>exact hv
  | 2,hv=>exact hv
  | j+3,hv=>simp[zad]at hv) underlying105 rfl aZ
 simp only[Instr.loadAt,Instr.sureAddr,yG,yH,yz,this];rfl
theorem BH {W:World} {pb:Nat} {q:HP} (h:W.heap[pb]?=some (.cells (hpVals q).toArray 152 (0,0))):(Instr.loadAt 105 (.pointer (some ⟨pb,6,none⟩))).run Tryz.prog W=.ok (.agg #[.int .u64 q.bord.1,.int .u64 q.bord.2.1,.int .u64 q.bord.2.2]) W:=by
 have:=bz (P:=Tryz.prog) W ⟨pb,6,none⟩ 105 (zad q.bord) _ (λ j v hv=>by
  rw[addr_add];simp only[World.cell?,h]
  match j,hv with
  | 0,hv=>exact hv
  | 1,hv=>exact hv
  | 2,hv=>exact hv
  | j+3,hv=>simp[zad]at hv) underlying105 rfl aZ
 simp only[Instr.loadAt,Instr.sureAddr,yG,yH,yz,this];rfl
theorem AX (S:HS) (ps:List HP) (q:HP) (sb pb m:Nat) (p:HP) (w:World) (hs:w.heap[sb]?=some (.cells (hsVals S).toArray 108 (0,0))) (hq:w.heap[pb]?=some (.cells (hpVals q).toArray 152 (0,0))) (hl:RP.Has w S.laid ps) (hp:ps[m]?=some p) (hpl:ps.length<=1000) (hpo:okW p.bord) (hqo:okW q.bord) :
  Calls Tryz.prog 81 #[.int .i64 m,.pointer (some ⟨sb,0,none⟩),.pointer (some ⟨pb,0,none⟩)] w λ e w'=>e=.returned (.bool (!decide (andW p.bord q.bord=(0,0,0))))/\Bw w w':=by
 obtain⟨f,a,J⟩:=hl.slice;have F:S.laid=.slice S.lp S.ln S.lc:=rfl;rw[F]at J;simp only[yC]at J;obtain⟨K,I,O⟩:=J;have P:=(yc.1 hp).1;rw[F]at hl;obtain⟨N,G,H⟩:=(I▸hl).at_ (by rintro e;rw[e]at hp;simp at hp);have Z:∀ d:SubW w,d.1.cell? ⟨sb,0,none⟩=some (.slice (some N) ps.length S.lc):=λ d=>by rw[(bq (d.block hs)).1,G,I]
 have A:∀ d:SubW w,(Instr.loadAt 105 (.pointer (some ((N.add (m*9)).add 6)))).run Tryz.prog d.1=.ok (.agg #[.int .u64 p.bord.1,.int .u64 p.bord.2.1,.int .u64 p.bord.2.2]) d.1:=λ d=>Cr (H.below d.2) hp;have C:∀ d:SubW w,(Instr.loadAt 105 (.pointer (some ⟨pb,6,none⟩))).run Tryz.prog d.1=.ok (.agg #[.int .u64 q.bord.1,.int .u64 q.bord.2.1,.int .u64 q.bord.2.2]) d.1:=λ d=>BH (d.block hq);have B:∀ d:SubW w,Calls Tryz.prog 75 #[w3V p.bord,w3V q.bord] d.1 λ e w'=>e=.returned (w3V (andW p.bord q.bord))/\∃ d':SubW w,w'=d'.1:=λ d=>(both_any p.bord q.bord hpo hqo d.1).mono λ e w' ⟨K,I⟩=>⟨K,⟨w',d.2.tm I.below⟩,rfl⟩;have D:∀ W,(Op.equalIn 10000 105 (.agg #[.int .u64 (andW p.bord q.bord).1,.int .u64 (andW p.bord q.bord).2.1,.int .u64 (andW p.bord q.bord).2.2]) (.agg #[.int .u64 0,.int .u64 0,.int .u64 0])).run Tryz.prog W=.ok (decide (andW p.bord q.bord=(0,0,0))) W:=λ W=>dW (andW p.bord q.bord) (0,0,0) W;unfold w3V at B;revert B D A C;generalize andW p.bord q.bord=z;generalize p.bord=u;generalize q.bord=v;obtain⟨U,V,T⟩:=z;obtain⟨u0,u1,u2⟩:=u;obtain⟨X,Y,c⟩:=v;simp only;intro A C B D;obtain⟨b,M⟩:∃ b,decide (((U,V,T):W3)=(0,0,0))=b:=⟨_,rfl⟩;rw[M]at D ⊢;have L:=yK B;clear M B hs hq hl hp H K I O G hpo hqo F;go_enter func81,ntmps81;go_upto_region 1 with fail;refine zg 11 (by kernel_rfl) (by kernel_rfl) ?_;simp only[yh,yj,yi,yl]
 repeat(first|((first|(go_big_quiet_want;refine zx 105 _ rfl rfl (by rintro w ⟨d,rfl⟩;exact A d) ?_;simp only[Act.put,yr,yF,yE];go_big_quiet_on)|(go_big_quiet_want;refine zx 105 _ rfl rfl (by rintro w ⟨d,rfl⟩;exact C d) ?_;simp only[Act.put,yr,yF,yE];go_big_quiet_on)|(go_big_quiet_want;refine fq 105 _ _ _ rfl rfl rfl (by kernel_rfl) (by rintro w ⟨d,rfl⟩;exact D _) ?_;simp only[Act.put,yr,yF,yE];go_big_quiet_on)))|go_big_quiet_step ((exact L.o _)))
 refine wpQuiet_nil ?_;intro dq;have R:=yK dq.2;go_wp2_with fail;go_ret;exact⟨rfl,R.o⟩
def anyO (ps:List HP) (q:HP) (os:List Nat):Bool:=os.any λ m=>!decide (andW (ps.getD m zeroP).bord q.bord=(0,0,0))
theorem wv (S:HS) (ps:List HP) (q:HP) (sb pb:Nat) (os:List Nat) (v:Value) (w:World) (hs:w.heap[sb]?=some (.cells (hsVals S).toArray 108 (0,0))) (hq:w.heap[pb]?=some (.cells (hpVals q).toArray 152 (0,0))) (hl:RP.Has w S.laid ps) (hpl:ps.length<=1000) (hpo:∀ p∈ps,okW p.bord) (hqo:okW q.bord)
  (hv:RI.Has w v (os.map λ n:Nat=>(n:Int))) (hol:os.length<=1000) (hom:∀ m∈os,m<ps.length) :
  Calls Tryz.prog 113 #[v,.func (.func 81) #[] #[.pointer (some ⟨sb,0,none⟩),.pointer (some ⟨pb,0,none⟩)]] w λ e w'=>∃ r:Int,e=.returned (.int .i64 r)/\decide (0<=r)=anyO ps q os/\Bw w w':=by
 obtain⟨X,V,rfl⟩:=hv.slice;rw[yB]at hv ⊢;have U:=yK hv;have H:Hid (∀ W,Bw w W->∀ (m:Nat) (p:HP),ps[m]?=some p->Calls Tryz.prog 81 #[.int .i64 m,.pointer (some ⟨sb,0,none⟩),.pointer (some ⟨pb,0,none⟩)] W λ e w'=>e=.returned (.bool (!decide (andW p.bord q.bord=(0,0,0))))/\Bw W w') :=
  yK λ W h m p A=>AX S ps q sb pb m p W ((h.block _ (ya.1 hs).1).trans hs) ((h.block _ (ya.1 hq).1).trans hq) (hl.below h) A hpl (hpo p (yg A)) hqo
 have L:=yK hom;clear hv hs hq hl hpo hqo hom;generalize hpo:(λ (e:Ending) (w':World)=>∃ r:Int,e=.returned (.int .i64 r)/\decide (0<=r)=anyO ps q os/\Bw w w')=Po;have F:=yK hpo;clear hpo;go_enter func113,ntmps113;go_wp2_with fail;go_loopw [8] (λ z wr=>∃ k:Nat,k<=os.length/\z=.int .i64 k/\Hid (anyO ps q (os.take k)=false/\Bw w wr)) (λ z _=>os.length-(intOf z).toNat)
 case atStart=>exact⟨0,YB _,rfl,yK ⟨rfl,yf _ _⟩⟩
 case round =>
  obtain⟨k,Y,rfl,B⟩:=hrel;obtain⟨R,O⟩:∃ z,z=wr:=⟨_,rfl⟩;subst O;by_cases hlt:k<os.length
  ·obtain⟨m,I⟩:∃ m,os[k]?=some m:=⟨_,yb hlt⟩;obtain⟨p,A⟩:∃ p,ps[m]?=some p:=⟨_,yb (L.o m (yg I))⟩;obtain⟨Z,rfl,G⟩:=(U.o.below B.o.2).at_ (by rintro e;rw[List.map_eq_nil_iff]at e;rw[e]at hlt;simp at hlt);have T:=RI.at_cell G (show (os.map λ n:Nat=>(n:Int))[k]?=some (m:Int)by rw[yQ,I];rfl);have HS:Hid (anyO ps q (os.take (k+1))=!decide (andW p.bord q.bord=(0,0,0))):=yK (by
    rw[zn I];have P:=B.o.1;unfold anyO at P ⊢;rw[List.any_append,P,Bool.false_or];simp[A])
   have K:Hid ((!decide (andW p.bord q.bord=(0,0,0)))=true->anyO ps q os=true):=yK λ h=>by
    unfold anyO;rw[YN];exact⟨m,yg I,by rw[yu,A];exact h⟩
   have J:=yK (H.o R B.o.2 m p A);have N:=yK B.o.2;clear G I A B;revert HS K J;generalize (!decide (andW p.bord q.bord=(0,0,0)))=b;intro HS K J;go_wp2_with fail;refine J.o.mono ?_;rintro e w1 ⟨rfl,C⟩;have D:=yK (N.o.tm C);clear J T C
   cases b with
   | true =>
    have M:=yK (K.o rfl);go_wp2_with fail;rw[<- F.o];exact⟨k,rfl,by rw[M.o];exact yw (by omega),D.o⟩
   | false =>
    go_wp2_with fail
    go_roundw
    case rel=>exact⟨k+1,by omega,by go_num,yK ⟨HS.o,D.o⟩⟩
    case measure=>simp only[intOf];omega
  obtain rfl:k=os.length:=by omega
  have M:Hid (anyO ps q os=false):=yK (by have:=B.o.1;rwa [Yc]at this);go_wp2_with fail;rw[<- F.o];exact⟨-1,rfl,by rw[M.o];rfl,B.o.2⟩
theorem sQ (S:HS) (ps:List HP) (q:HP) (sb pb:Nat) (os:List Nat) (v:Value) (w:World) (hs:w.heap[sb]?=some (.cells (hsVals S).toArray 108 (0,0))) (hq:w.heap[pb]?=some (.cells (hpVals q).toArray 152 (0,0))) (hl:RP.Has w S.laid ps) (hpl:ps.length<=1000) (hpo:∀ p∈ps,okW p.bord) (hqo:okW q.bord)
  (hv:RI.Has w v (os.map λ n:Nat=>(n:Int))) (hol:os.length<=1000) (hom:∀ m∈os,m<ps.length) :
  Calls Tryz.prog 68 #[v,.func (.func 81) #[] #[.pointer (some ⟨sb,0,none⟩),.pointer (some ⟨pb,0,none⟩)]] w λ e w'=>e=.returned (.bool (anyO ps q os))/\Bw w w':=by
 have A:=yK (wv S ps q sb pb os v w hs hq hl hpl hpo hqo hv hol hom);clear hs hq hl hpo hqo hv hom;go_enter func68,ntmps68;go_wp2_with fail;refine A.o.mono ?_;rintro e w' ⟨r,rfl,B,D⟩;clear A;have C:=yK (YP B D);clear B D;go_wp2_with fail;go_ret;exact⟨by rw[<- C.o.1];rfl,C.o.2⟩
