/- Chapter 7 in the heap: tiled, of any task and any bricks: the board and the state of a tiling, or the error. -/
import Derived.Test.YtiinlplgloaanaaGreatDoorZzLayerNever42
set_option linter.all false
set_option maxRecDepth 100000
set_option maxHeartbeats 8000000
namespace Go.Proofs.YtiinlplgloaanaaGreatDoor
open Go.Proofs.Tryz Go.RowKit
attribute [local go_sem] Oper.semAt_some
theorem zd7 (ax ay ak bx b_y bk:Int) (w:World) :
  Calls Tryz.prog 45 #[.agg #[.int .i64 ax,.int .i64 ay,.int .i64 ak],.agg #[.int .i64 bx,.int .i64 b_y,.int .i64 bk]] w λ e w' =>
   e=.returned (.int .i64 (orL [cmpI ay b_y,cmpI ax bx,cmpI ak bk]))∧Grew w w':=by
 go_enter func45,ntmps45;go_wp2;go_region_held3 (λ w'=>w'.cell? ⟨w.heap.size,0,none⟩=some (.int .i64 ax)∧w'.cell? ⟨w.heap.size,1,none⟩=some (.int .i64 ay)∧w'.cell? ⟨w.heap.size,2,none⟩=some (.int .i64 ak) ∧
   w'.cell? ⟨w.heap.size+1,0,none⟩=some (.int .i64 bx)∧w'.cell? ⟨w.heap.size+1,1,none⟩=some (.int .i64 b_y)∧w'.cell? ⟨w.heap.size+1,2,none⟩=some (.int .i64 bk)) (first|go_keep|simp)
  (first
   | (go_at_call 93;refine (qa5 _ _ _).mono ?_;rintro e w' ⟨rfl,rfl⟩)
   | (go_at_call 99;refine Calls.mono (qcJ (w.heap.size+1+1) 3 (cmpI ay b_y) (cmpI ax bx) (cmpI ak bk) _ ?_ ?_ ?_) ?_;go_simp;go_simp;go_simp;rintro e w' ⟨rfl,rfl⟩))
 go_wp2;go_ret;exact⟨rfl,((((Grew.refl w).alloc _).alloc _).alloc _).drew⟩
def AdjE (es:List E):Prop:=∀ (i:Nat) (a b:E),es[i]?=some a→es[i+1]?=some b→¬ ltE b a
def NeqE (es:List E):Prop:=∀ (i:Nat) (a b:E),es[i]?=some a→es[i+1]?=some b→b≠a
theorem qfE {W:World} {p:Option Addr} {n c:Nat} {es:List E} (h:RE.Has W (.slice p n c) es) {j:Nat} {e:E} (he:es[j]?=some e):∃ a,p=some a∧a.block<W.heap.size∧∀ d:SubW W,d.1.cell? (a.add (j*3))=some (.int .i64 e.x)∧d.1.cell? { block:=(a.add (j*3)).block,off:=(a.add (j*3)).off+1 }=some (.int .i64 e.y)∧d.1.cell? { block:=(a.add (j*3)).block,off:=(a.add (j*3)).off+2 }=some (.int .i64 e.k):=by
 obtain⟨a,rfl,hlt,_⟩:=zeZ h he;refine⟨a,rfl,hlt,λ d=>?_⟩;obtain⟨a',e',_,h1,h2,h3⟩:=zeZ (h.below d.2) he
 cases e'
 exact⟨h1,h2,h3⟩
theorem zcA (es:List E) (v:Value) (w:World) (h:RE.Has w v es) (hl:es.length≤1000000) :
  Calls Tryz.prog 44 #[v,.func (.func 45) #[] #[]] w λ e w'=>∃ r:Bool,e=.returned (.bool r)∧(r=true↔AdjE es)∧Below w.heap.size w w':=by
 obtain⟨p,c,rfl⟩:=h.slice;have HV:=yK h;clear h;go_enter func44,ntmps44;go_wp2_with fail;go_loopw [5] (λ z wr=>∃ n:Nat,n≤es.length∧z=.int .i64 ((n:Int)-1)∧Hid (Below w.heap.size w wr∧∀ (i:Nat) (a b:E),n≤i+1→es[i]?=some a→es[i+1]?=some b→¬ ltE b a)) (λ z _=>(intOf z).toNat)
 case atStart=>exact⟨es.length,ye _,rfl,yK ⟨yf _ _,λ i a b hi _ h2=>by have:=(yc.1 h2).1;omega⟩⟩
 case round =>
  obtain⟨n,hn,rfl,HR⟩:=hrel;by_cases h2:2≤n
  ·obtain⟨m,rfl⟩:∃ m,n=m+2:=⟨n-2,by omega⟩;rw[show (((m+2:Nat):Int)-1)=(m:Int)+1 by omega];obtain⟨b,hb⟩:∃ b,es[m+1]?=some b:=⟨_,yb (by omega)⟩;obtain⟨a,ha⟩:∃ a,es[m]?=some a:=⟨_,yb (by omega)⟩;obtain⟨ad,rfl,_,hcb⟩:=qfE (HV.out.below HR.out.1) hb;obtain⟨ad',e',_,hca⟩:=qfE (HV.out.below HR.out.1) ha
   cases e'
   have HA:=yK ha;clear ha;have HBB:=yK hb;clear hb;have HC:Hid (∀ d:SubW wr,Calls Tryz.prog 45 #[.agg #[.int .i64 b.x,.int .i64 b.y,.int .i64 b.k],.agg #[.int .i64 a.x,.int .i64 a.y,.int .i64 a.k]] d.1 λ e w'=>e=.returned (.int .i64 (cmpE b a))∧∃ d':SubW wr,w'=d'.1):=yK λ d=>by
    refine (zd7 b.x b.y b.k a.x a.y a.k d.1).mono ?_;rintro e w' ⟨rfl,hg⟩;exact⟨rfl,⟨w',d.2.trans (hg.below.mono d.2.size)⟩,rfl⟩
   have HLT:Hid (cmpE b a<0↔ltE b a):=yK qaw;have b0:=λ d=>(hcb d).1;have b1:=λ d=>(hcb d).2.1;have b2:=λ d=>(hcb d).2.2;have a0:=λ d=>(hca d).1;have a1:=λ d=>(hca d).2.1;have a2:=λ d=>(hca d).2.2;clear hcb hca;obtain⟨bx,b_y,bk⟩:=b;obtain⟨ax,a_y,ak⟩:=a;simp only at b0 b1 b2 a0 a1 a2;generalize hcm:cmpE ⟨bx,b_y,bk⟩ ⟨ax,a_y,ak⟩=cm at HC HLT;clear hcm;have e1:decide ((0:Int)<(m:Int)+1)=true:=yw (by omega);have i1:(0:Int)≤(m:Int)+1:=(by omega);have i2:(m:Int)+1<(es.length:Int):=(by omega);have i3:(m:Int)<(es.length:Int):=(by omega);have w1:IntKind.i64.wrap (m:Int)=m:=(by rw[IntKind.wrap_i64];omega);have t1:((m:Int)+1).toNat=m+1:=(by omega);by_cases hlt:ltE ⟨bx,b_y,bk⟩ ⟨ax,a_y,ak⟩
   ·have hd:decide (cm<0)=true:=yw (HLT.out.2 hlt);go_upto_region 4 with fail;refine qh 12 (by kernel_rfl) (by kernel_rfl) ?_;simp only[yh,yj,yi,yl]
    repeat (go_big_quiet_step ((exact HC.out _)))
    refine wpQuiet_nil ?_;intro dq;have hB:=HR.out.1.trans (dq.2.mono HR.out.1.size);clear b0 b1 b2 a0 a1 a2 HC;go_wp2_with fail;go_ret;exact⟨false,rfl,⟨λ h=>(by cases h),λ h=>absurd hlt (h m _ _ HA.out HBB.out)⟩,hB⟩
   have hd:decide (cm<0)=false:=yv λ hc=>hlt (HLT.out.1 hc);go_upto_region 4 with fail;refine qh 12 (by kernel_rfl) (by kernel_rfl) ?_;simp only[yh,yj,yi,yl]
   repeat (go_big_quiet_step ((exact HC.out _)))
   refine wpQuiet_nil ?_;intro dq;have hB:=HR.out.1.trans (dq.2.mono HR.out.1.size);clear b0 b1 b2 a0 a1 a2 HC;have HNX:Hid (Below w.heap.size w dq.1∧∀ (i:Nat) (a b:E),m+1≤i+1→es[i]?=some a→es[i+1]?=some b→¬ ltE b a):=yK ⟨hB,λ i a b hi h1 h3=>by
    rcases (by omega:i=m∨m+2≤i+1)with rfl|h
    ·rw[HA.out]at h1;rw[HBB.out]at h3;cases h1;cases h3;exact hlt
    exact HR.out.2 i a b h h1 h3⟩
   clear hB HR;go_wp2_with fail
   go_roundw
   case rel=>exact⟨m+1,by omega,by go_num,HNX⟩
   case measure=>first|(simp[intOf];done)|(simp[intOf];omega)
  have hd:decide ((0:Int)<(n:Int)-1)=false:=yv (by omega);go_wp2_with fail;go_ret;exact⟨true,rfl,⟨λ _ i a b h1 h3=>HR.out.2 i a b (by omega) h1 h3,λ _=>rfl⟩,HR.out.1⟩
theorem qbR {α:Type} {R:REnc α} (hn:0<R.n) {W:World} {a:Addr} {l:List α} (h:R.At W a l):∀ (j:Nat) (u:Value),(R.cells l)[j]?=some u→W.cell? (a.add j)=some u:=by
 intro j u hu;have hj:j<l.length*R.n:=by rw[← R.cells_length];exact (yc.1 hu).1
 have hd:j / R.n<l.length:=by rw[Nat.div_lt_iff_lt_mul hn];exact hj
 have e:j / R.n*R.n+j % R.n=j:=by rw[Nat.mul_comm];exact Nat.div_add_mod j R.n
 have hg:=R.cells_get (yb hd) (j % R.n) (Nat.mod_lt _ hn);rw[e,hu]at hg;have:=h.at_ (j / R.n) _ (yb hd) (j % R.n) u hg.symm;rwa [e]at this
theorem qfb (es:List E) (v:Value) (w:World) (h:RE.Has w v es) (hl:es.length≤1000000) :
  Calls Tryz.prog 47 #[v] w λ e w'=>∃ u,e=.returned u∧OwnEd w' w.heap.size u es∧Below w.heap.size w w':=by
 rcases h with⟨rfl,rfl⟩|⟨a,cap,rfl,hlc,hcm,hat⟩
 case inl =>
  go_enter func47,ntmps47;have he:(binOp .eql 32 (.slice none 0 0) (.slice none 0 0)).run Tryz.prog w=.ok (.bool true) w:=by kernel_rfl
  go_wp2_with fail;go_ret;exact⟨_,rfl,World.ownsRow_nil _ w.heap.size 61 3,yf _ _⟩
 case inr =>
  go_enter func47,ntmps47;have he:(binOp .eql 32 (.slice (some a) es.length cap) (.slice none 0 0)).run Tryz.prog w=.ok (.bool false) w:=by kernel_rfl
  have hal:Below w.heap.size w (w.alloc (.cells #[] 61)):=(yf _ w).alloc (ye _) _;have hown:(w.alloc (.cells #[] 61)).ownsRow w.heap.size 61 3 (.slice (some ⟨w.heap.size,0,none⟩) 0 0) 0 []:=⟨rfl,.inr ⟨w.heap.size,0,#[],rfl,ye _,yd w _,ye _,by decide,rfl,rfl⟩⟩;have hcells:∀ (j:Nat) (u:Value),(eCells es)[j]?=some u→(w.alloc (.cells #[] 61)).cell? (a.add j)=some u:=qbR (by decide) (hat.below hal);have hone:∀ u∈eCells es,u.oneCell'=true:=λ u hu=>by
   obtain⟨q,_,hq⟩:=List.mem_flatMap.1 hu;exact zcb q u hq
  have HM1:Hid (0+es.length≤maxLen):=yK (by simp only[maxLen];omega);have HM2:Hid ((0+es.length)*24≤140737488355328):=yK (by omega);obtain⟨iE,hiE,hzE,hsE,hbE⟩:=info_parts infoE;go_wp2_with (first
   | (at_builtin;refine wpList_append_own _ rfl _ _ 32 rfl w.heap.size 61 iE _ 3 24 underlying32 hiE hzE hsE hbE rfl (by decide) (.slice (some ⟨w.heap.size,0,none⟩) 0 0) 0 [] rfl hown a es.length cap (eCells es) rfl (qdM es) hcells hone HM1.out HM2.out (by rw[yp];omega) ?_;intro v' w2 hown' hgrow _;obtain⟨p'',c'',rfl⟩:=qg hown'))
  go_ret;refine⟨_,rfl,?_,hal.grown hgrow (by rw[yp];omega) (λ k hk=>(hown.lt k hk).1)⟩;simpa using hown'
theorem zdy (a b:E) (W:World):(Op.equalIn 10000 61 (.agg #[.int .i64 a.x,.int .i64 a.y,.int .i64 a.k]) (.agg #[.int .i64 b.x,.int .i64 b.y,.int .i64 b.k])).run Tryz.prog W=.ok (decide (a=b)) W:=by
 rw[run_equalIn_agg W 9999 61 _ _ (by kernel_rfl) (by kernel_rfl)];obtain⟨ax,ay,ak⟩:=a;obtain⟨bx,b_y,bk⟩:=b;simp only[E.mk.injEq];by_cases h1:ax=bx <;> by_cases h2:ay=b_y <;> by_cases h3:ak=bk <;> simp[go_sem,h1,h2,h3]
def IntRow (W:World) (base g n cap:Nat):Prop:=∃ xs:List Value,W.ownsRow base 61 3 (.slice (some ⟨g,0,none⟩) n cap) n xs∧∀ u∈xs,∃ z:Int,u=.int .i64 z
theorem IntRow.of {W:World} {base g cap:Nat} {es:List E} (h:OwnEd W base (.slice (some ⟨g,0,none⟩) es.length cap) es):IntRow W base g es.length cap :=
 ⟨eCells es,h,λ u hu=>by
  obtain⟨e,_,he⟩:=List.mem_flatMap.1 hu;simp only[eVals,Ye,List.not_mem_nil,or_false]at he;rcases he with rfl|rfl|rfl <;> exact⟨_,rfl⟩⟩
theorem IntRow.cell {W:World} {base g n cap:Nat} (h:IntRow W base g n cap) {j:Nat} (hj:j<n*3):∃ z:Int,W.cell? ⟨g,j,none⟩=some (.int .i64 z):=by
 obtain⟨xs,h1,h2⟩:=h;have hl:j<xs.length:=by rw[h1.1];exact hj
 obtain⟨z,hz⟩:=h2 _ (List.getElem_mem hl);have:=World.ownsRow.cells h1 (g:=g) rfl j _ (yb hl);rw[zU,hz]at this;exact⟨z,this⟩
theorem IntRow.frozen {W:World} {base g n cap:Nat} (h:IntRow W base g n cap) (j:Nat):W.frozen? ⟨g,j,none⟩=false:=by
 obtain⟨xs,h1,_⟩:=h;exact World.ownsRow.frozenAt h1 j
theorem IntRow.store {W:World} {base g n cap:Nat} (h:IntRow W base g n cap) (j:Nat) (z:Int):IntRow (W.setCell ⟨g,j,none⟩ (.int .i64 z)) base g n cap:=by
 obtain⟨xs,h1,h2⟩:=h;refine⟨_,(World.ownsRow.stored h1 j (.int .i64 z)).1,λ u hu=>?_⟩;rcases List.mem_or_eq_of_mem_set hu with hu|rfl
 ·exact h2 u hu
 exact⟨z,rfl⟩
theorem IntRow.below {W W':World} {base g n cap:Nat} (h:IntRow W base g n cap) (e:Below W.heap.size W W'):IntRow W' base g n cap:=by
 obtain⟨xs,h1,h2⟩:=h;exact⟨xs,qf h1 e,h2⟩
theorem IntRow.ge {W:World} {base g n cap:Nat} (h:IntRow W base g n cap):base≤g∧n≤cap:=by
 obtain⟨xs,h1,_⟩:=h;refine⟨(zf h1 rfl).1,?_⟩;rcases h1.2 with⟨h0,_⟩|⟨gg,cap',cur,hvv,_,_,h3,_⟩
 ·cases h0
 simp only[yC]at hvv;obtain⟨_,_,rfl⟩:=hvv;exact h3
theorem qbK {w:World} {base:Nat} {g:Nat} (hg:base≤g):∀ (us:List Value) (j:Nat) (W:World),Below base w W→Below base w (W.setCells g j us)
 | [],_,_,h=>h
 | u :: us,j,W,h=>qbK hg us (j+1) _ (h.setCell (p:=⟨g,j,none⟩) hg u)
theorem zfl {w W:World} {B A:Nat} (h:Below B w W) (hA:B≤A) (a b c:Nat) (x y z:Value):Below B w (((W.setCell ⟨A,a,none⟩ x).setCell ⟨A,b,none⟩ y).setCell ⟨A,c,none⟩ z) :=
 ((h.setCell (p:=⟨A,a,none⟩) hA x).setCell (p:=⟨A,b,none⟩) hA y).setCell (p:=⟨A,c,none⟩) hA z
theorem qfe {W:World} {base g n cap:Nat} (h:IntRow W base g n cap) (k m c:Nat) (hk:k+m≤n) (hm:0<m) :
  ∃ W',(∀ ty,(Builtin.clear_ #[32] ty #[.slice (some ⟨g,k*3,none⟩) m c]).run Tryz.prog W=.ok (.tuple #[]) W')∧∀ w,Below base w W→Below base w W':=by
 have hv:∀ w,(zeroValue 61).run Tryz.prog w=.ok (.agg #[.int .i64 0,.int .i64 0,.int .i64 0]) w:=λ w=>by kernel_rfl
 have hzs:(Builtin.zeroCells (Value.agg #[.int .i64 0,.int .i64 0,.int .i64 0]).cells m).toList.length=m*3:=by simp[Builtin.zeroCells,Value.cells]
 have hzz:∀ v∈(Builtin.zeroCells (Value.agg #[.int .i64 0,.int .i64 0,.int .i64 0]).cells m).toList,v=.int .i64 0:=λ v hv=>by
  simp only[Builtin.zeroCells,Value.cells,Array.toList_map,yP]at hv;obtain⟨i,_,rfl⟩:=hv;have h3:i % 3<3:=Nat.mod_lt _ (by decide);show (#[Value.int .i64 0,.int .i64 0,.int .i64 0]:Array Value)[i % 3]! =_;rcases (by omega:i % 3=0∨i % 3=1∨i % 3=2)with h|h|h <;> rw[h] <;> rfl
 have hst:=run_storeCells_cells (P:=Tryz.prog) g (k*3) (Builtin.zeroCells (Value.agg #[.int .i64 0,.int .i64 0,.int .i64 0]).cells m).toList 0 W
  (λ j hj=>by
   rw[hzs]at hj;obtain⟨z,hz⟩:=h.cell (j:=k*3+0+j) (by omega);rw[hz];rfl) (λ j _=>h.frozen _) (λ v hv=>by rw[hzz v hv];rfl)
 obtain⟨q,rfl⟩:∃ q,m=q+1:=⟨m-1,by omega⟩;refine⟨W.setCells g (k*3+0) (Builtin.zeroCells (Value.agg #[.int .i64 0,.int .i64 0,.int .i64 0]).cells (q+1)).toList,λ ty=>?_,λ w hb=>qbK h.ge.1 _ _ _ hb⟩;simp[Builtin.clear_,run_underlying underlying32,hv,hst]
def CompPost (es:List E) (base:Nat) (w:World) (e:Ending) (w':World):Prop:=∃ (p:Option Addr) (n c:Nat),e=.returned (.slice p n c)∧(n=es.length↔NeqE es)∧n≤es.length∧Below base w w'
theorem qdR (es:List E) (v:Value) (base:Nat) (w:World) (h:OwnEd w base v es) (hbw:base≤w.heap.size) (hl:es.length≤1000000) :
  Calls Tryz.prog 46 #[v] w (CompPost es base w):=by
 obtain⟨p,c,rfl⟩:=qg h;by_cases h2:es.length<2
 case pos =>
  have hd2:decide ((es.length:Int)<2)=true:=yw (by omega);go_enter func46,ntmps46;go_wp2_with fail;go_ret;exact⟨_,_,_,rfl,⟨λ _ i a b h1 h3=>by have:=(yc.1 h3).1;omega,λ _=>rfl⟩,ye _,yf _ _⟩
 case neg =>
  have hd2:decide ((es.length:Int)<2)=false:=yv (by omega);obtain⟨g,rfl⟩:∃ g,p=some ⟨g,0,none⟩:=by
   rcases h.2 with⟨_,h0⟩|⟨gg,cap,cur,hvv,_⟩
   ·omega
   simp only[yC]at hvv;exact⟨gg,hvv.1⟩
  have HO:=yK h;clear h;have hcl:=(IntRow.of HO.out).ge.2;go_enter func46,ntmps46;go_wp2_with fail;clear hd2;go_loopw [3] (λ z wr=>∃ k:Nat,1≤k∧k≤es.length∧z=.int .i64 k∧Hid (Below w.heap.size w wr∧∀ (i:Nat) (a b:E),i+1<k→es[i]?=some a→es[i+1]?=some b→b≠a)) (λ z _=>es.length-(intOf z).toNat)
  case atStart=>exact⟨1,by omega,by omega,rfl,yK ⟨yf _ _,λ i a b hi=>by omega⟩⟩
  obtain⟨k,hk1,hk,rfl,HR⟩:=hrel;by_cases hlt:k<es.length
  case neg =>
   obtain rfl:k=es.length:=(by omega);go_wp2_with fail;go_ret;exact⟨_,_,_,rfl,⟨λ _ i a b h1 h3=>HR.out.2 i a b (by have:=(yc.1 h3).1;omega) h1 h3,λ _=>rfl⟩,ye _,HR.out.1.mono hbw⟩
  obtain⟨m,rfl⟩:∃ m,k=m+1:=⟨k-1,by omega⟩;obtain⟨b,hb⟩:∃ b,es[m+1]?=some b:=⟨_,yb hlt⟩;obtain⟨a,ha⟩:∃ a,es[m]?=some a:=⟨_,yb (by omega)⟩;have hO:=qf HO.out HR.out.1;obtain⟨b0,b1,b2⟩:=zbf hb;obtain⟨a0,a1,a2⟩:=zbf ha;have cb0:=World.ownsRow.cells hO (g:=g) rfl _ _ b0;have cb1:=World.ownsRow.cells hO (g:=g) rfl _ _ b1;have cb2:=World.ownsRow.cells hO (g:=g) rfl _ _ b2;have ca0:=World.ownsRow.cells hO (g:=g) rfl _ _ a0;have ca1:=World.ownsRow.cells hO (g:=g) rfl _ _ a1;have ca2:=World.ownsRow.cells hO (g:=g) rfl _ _ a2;rw[zU]at cb0 cb1 cb2 ca0 ca1 ca2;have heq:=zdy b a;have hw1:IntKind.i64.wrap (((m+1:Nat):Int)-1)=m:=by rw[IntKind.wrap_i64];omega
  have i1:(m:Int)<(es.length:Int):=by omega
  have i2:(0:Int)≤(m:Int):=by omega
  have HAB:=yK (And.intro ha hb);clear hO b0 b1 b2 a0 a1 a2 ha hb;obtain⟨bx,b_y,bk⟩:=b;obtain⟨ax,a_y,ak⟩:=a;simp only at cb0 cb1 cb2 ca0 ca1 ca2 heq;by_cases hba:(⟨bx,b_y,bk⟩:E)=⟨ax,a_y,ak⟩
  case neg =>
   have hde:decide ((⟨bx,b_y,bk⟩:E)=⟨ax,a_y,ak⟩)=false:=yv hba;simp only[hde]at heq;go_upto_region 6 with fail;refine zt 10 (by kernel_rfl) (by kernel_rfl) ?_;simp only[yh,yj,yi,yl]
   repeat (go_big_quiet_step (fail))
   refine wpQuiet_nil ?_;intro nq;have HN:Hid (Below w.heap.size w (wr.drewN nq)∧∀ (i:Nat) (a b:E),i+1<m+1+1→es[i]?=some a→es[i+1]?=some b→b≠a):=yK ⟨HR.out.1.trans ((below_drewN _ wr nq).mono HR.out.1.size),λ i a b hi h1 h3=>by
    rcases (by omega:i+1<m+1∨i=m)with h|rfl
    ·exact HR.out.2 i a b h h1 h3
    rw[HAB.out.1]at h1;rw[HAB.out.2]at h3;cases h1;cases h3;exact hba⟩
   clear cb0 cb1 cb2 ca0 ca1 ca2 heq hde HR HAB hba hw1;revert HN;generalize wr.drewN nq=wu;intro HN;clear nq;go_wp2_with fail
   go_roundw
   case rel=>exact⟨m+1+1,by omega,by omega,by go_num,HN⟩
   case measure=>simp[intOf];omega
  have hde:decide ((⟨bx,b_y,bk⟩:E)=⟨ax,a_y,ak⟩)=true:=yw hba;simp only[hde]at heq;have hnn:¬ NeqE es:=λ hn=>hn m _ _ HAB.out.1 HAB.out.2 hba;have HNN:=yK hnn;clear hnn hba;obtain⟨ad,c9,hsuf,had⟩:=zfv (g:=g) (k:=m+1) (n:=es.length) (cap:=c) (s:=3) (by omega) hcl;obtain rfl:=had hlt;obtain⟨N,hN⟩:∃ N,es.length-(m+1)=N:=⟨_,rfl⟩;rw[hN]at hsuf;have hNl:es.length=m+1+N:=by omega
  have HNL:=yK hNl;clear hNl;have HN0:=yK hN;clear hN;have hN1:1≤N:=by have:=HNL.out;omega
  have hNb:N≤1000000:=by have:=HNL.out;omega
  go_upto_region 6 with fail;refine zt 10 (by kernel_rfl) (by kernel_rfl) ?_;simp only[yh,yj,yi,yl]
  repeat (go_big_quiet_step (fail))
  refine wpQuiet_nil ?_;intro nq;have hI:=(IntRow.of HO.out).below (HR.out.1.trans ((below_drewN _ wr nq).mono HR.out.1.size));have HN:Hid (IntRow (wr.drewN nq) base g es.length c∧Below base w (wr.drewN nq)):=yK ⟨hI,(HR.out.1.trans ((below_drewN _ wr nq).mono HR.out.1.size)).mono hbw⟩;clear cb0 cb1 cb2 ca0 ca1 ca2 heq hde HR HAB hw1 HO hI;revert HN;generalize wr.drewN nq=wu;intro HN;clear nq;go_wp2_with fail;clear hsuf had;rw[HN0.out];go_loopw [3,5] (λ z y wq=>∃ k q:Nat,1≤q∧q≤N∧m+1≤k∧k≤m+q∧z=.int .i64 k∧y=.int .i64 q∧Hid (IntRow wq base g es.length c∧Below base w wq)) (λ _ y _=>N-(intOf y).toNat)
  case atStart=>exact⟨m+1,1,by omega,hN1,by omega,by omega,rfl,rfl,HN⟩
  clear HN;obtain⟨k,q,hq1,hqN,hk0,hkq,rfl,rfl,HQ⟩:=hrel;by_cases hql:q<N
  case neg =>
   obtain rfl:q=N:=(by omega);have hkl:k<es.length:=(by have:=HNL.out;omega);obtain⟨W9,hclr,hb9⟩:=qfe HQ.out.1 k (es.length-k) (c-k) (by omega) (by omega);have HB9:=yK (hb9 w HQ.out.2);clear hb9 HQ HNL HN0;have hkc:k≤c:=(by omega);go_wp2_with fail;clear hclr;go_ret;exact⟨_,k,_,rfl,⟨λ hn=>absurd hn (by omega),λ hn=>absurd hn HNN.out⟩,by omega,HB9.out⟩
  obtain⟨r,rfl⟩:∃ r,q=r+1:=⟨q-1,by omega⟩;have hLn:=HNL.out;obtain⟨x0,hx0⟩:=HQ.out.1.cell (j:=(m+1)*3+(r+1)*3) (by omega);obtain⟨x1,hx1⟩:=HQ.out.1.cell (j:=(m+1)*3+(r+1)*3+1) (by omega);obtain⟨x2,hx2⟩:=HQ.out.1.cell (j:=(m+1)*3+(r+1)*3+2) (by omega);obtain⟨y0,hy0⟩:=HQ.out.1.cell (j:=(m+1)*3+r*3) (by omega);obtain⟨y1,hy1⟩:=HQ.out.1.cell (j:=(m+1)*3+r*3+1) (by omega);obtain⟨y2,hy2⟩:=HQ.out.1.cell (j:=(m+1)*3+r*3+2) (by omega);have heq:=zdy ⟨x0,x1,x2⟩ ⟨y0,y1,y2⟩;simp only at heq;have hkl:(k:Int)<(es.length:Int):=by omega
  have hrb:r≤1000000:=by omega
  have j1:(r:Int)<(N:Int):=by omega
  have j2:(0:Int)≤(r:Int):=by omega
  clear hLn
  cases hde:decide ((⟨x0,x1,x2⟩:E)=⟨y0,y1,y2⟩)with
  | true =>
   rw[hde]at heq;go_upto_region 11 with fail;refine zt 10 (by kernel_rfl) (by kernel_rfl) ?_;simp only[yh,yj,yi,yl]
   repeat (go_big_quiet_step (fail))
   refine wpQuiet_nil ?_;intro nq;have hbd:=(below_drewN wr.heap.size wr nq);have HN:Hid (IntRow (wr.drewN nq) base g es.length c∧Below base w (wr.drewN nq)):=yK ⟨HQ.out.1.below hbd,HQ.out.2.trans (hbd.mono (yJ hbw HQ.out.2.size))⟩;clear hx0 hx1 hx2 hy0 hy1 hy2 heq hde HQ hbd hkl j1 j2;revert HN;generalize wr.drewN nq=wu;intro HN;clear nq;go_wp2_with fail
   go_roundw
   case rel=>exact⟨k,r+1+1,by omega,by omega,by omega,by omega,rfl,by go_num,HN⟩
   case measure=>simp[intOf];omega
  | false =>
   rw[hde]at heq;go_upto_region 11 with fail;refine zt 10 (by kernel_rfl) (by kernel_rfl) ?_;simp only[yh,yj,yi,yl]
   repeat (go_big_quiet_step (fail))
   refine wpQuiet_nil ?_;intro nq;have hbd:=(below_drewN wr.heap.size wr nq);have HN:Hid (IntRow (wr.drewN nq) base g es.length c∧Below base w (wr.drewN nq)):=yK ⟨HQ.out.1.below hbd,HQ.out.2.trans (hbd.mono (yJ hbw HQ.out.2.size))⟩;replace hx0:(wr.drewN nq).cell? ⟨g,(m+1)*3+(r+1)*3,none⟩=some (.int .i64 x0):=hx0;replace hx1:(wr.drewN nq).cell? ⟨g,(m+1)*3+(r+1)*3+1,none⟩=some (.int .i64 x1):=hx1;replace hx2:(wr.drewN nq).cell? ⟨g,(m+1)*3+(r+1)*3+2,none⟩=some (.int .i64 x2):=hx2;clear hy0 hy1 hy2 heq hde HQ hbd j1 j2;revert HN hx0 hx1 hx2;generalize wr.drewN nq=wu;intro HN hx0 hx1 hx2;clear nq;obtain⟨z0,hz0⟩:=HN.out.1.cell (j:=k*3) (by omega);obtain⟨z1,hz1⟩:=HN.out.1.cell (j:=k*3+1) (by omega);obtain⟨z2,hz2⟩:=HN.out.1.cell (j:=k*3+2) (by omega);have hfz:=HN.out.1.frozen;have hkl2:(0:Int)≤(k:Int):=(by omega);have HNS:Hid (IntRow (((wu.setCell ⟨g,k*3,none⟩ (.int .i64 x0)).setCell ⟨g,k*3+1,none⟩ (.int .i64 x1)).setCell ⟨g,k*3+2,none⟩ (.int .i64 x2)) base g es.length c∧Below base w (((wu.setCell ⟨g,k*3,none⟩ (.int .i64 x0)).setCell ⟨g,k*3+1,none⟩ (.int .i64 x1)).setCell ⟨g,k*3+2,none⟩ (.int .i64 x2))):=yK
    ⟨((HN.out.1.store _ _).store _ _).store _ _,zfl HN.out.2 HN.out.1.ge.1 _ _ _ _ _ _⟩
   clear HN;go_wp2_with fail
   go_roundw
   case rel=>exact⟨k+1,r+1+1,by omega,by omega,by omega,by omega,by go_num,by go_num,HNS⟩
   case measure=>simp[intOf];omega
theorem pairE {l:List E}:l.Pairwise ltE↔AdjE l∧NeqE l:=by
 constructor
 ·intro h;have hp:∀ (i:Nat) (a b:E),l[i]?=some a→l[i+1]?=some b→ltE a b:=λ i a b h1 h2=>by
   obtain⟨hi,rfl⟩:=yc.1 h1;obtain⟨hj,rfl⟩:=yc.1 h2;exact List.pairwise_iff_getElem.1 h i (i+1) hi hj (by omega)
  refine⟨λ i a b h1 h2 hn=>?_,λ i a b h1 h2 e=>?_⟩
  ·have:=hp i a b h1 h2;unfold ltE Q.lt E.toQ at this hn;simp only at this hn;omega
  have:=hp i a b h1 h2;subst e;unfold ltE Q.lt E.toQ at this;simp only at this;omega
 rintro⟨h1,h2⟩;have hadj:∀ i,(hi:i+1<l.length)→ltE (l[i]'(by omega)) l[i+1]:=λ i hi=>by
  have e1:l[i]?=some (l[i]'(by omega)):=yb (by omega);have e2:l[i+1]?=some l[i+1]:=yb hi;have n1:=h1 i _ _ e1 e2;have n2:=h2 i _ _ e1 e2;generalize l[i]'(by omega)=a at *;generalize l[i+1]=b at *;obtain⟨ax,ay,ak⟩:=a;obtain⟨bx,b_y,bk⟩:=b;rw[ne_eq,E.mk.injEq]at n2;unfold ltE Q.lt E.toQ at n1 ⊢;simp only at n1 ⊢;omega
 rw[List.pairwise_iff_getElem];intro i j hi hj hij;obtain⟨d,rfl⟩:∃ d,j=i+1+d:=⟨j-i-1,by omega⟩;clear hij
 induction d with
 | zero=>exact hadj i hj
 | succ d ih =>
  have a1:=ih (by omega);have a2:ltE (l[i+1+d]'(by omega)) (l[i+1+(d+1)]):=hadj (i+1+d) hj;unfold ltE Q.lt E.toQ at a1 a2 ⊢;simp only at a1 a2 ⊢;omega
def inE7 (e:E):Bool:=decide ((0≤e.x∧e.x≤16)∧(0≤e.y∧e.y≤16)∧(0≤e.k∧e.k≤5))
theorem zhB {t:Tk}:OkT t↔(∀ c∈t.counts,0≤c∧c≤16)∧isK t.ground 64=true∧(1≤t.kinds.length∧t.kinds.length≤8)∧t.counts.length=t.kinds.length∧t.counts.sum≤16∧t.fixed.length≤16∧t.below.length≤400∧(AdjE t.below∧NeqE t.below)∧(t.kinds.all λ s=>isK s 16)=true∧t.below.all inE7=true:=by
 have hk:∀ (s:List Q) (n:Nat),isK s n=true↔s.length≤n∧checkN s=0:=λ s n=>by unfold isK;exact decide_eq_true_iff
 have he:∀ e:E,inE7 e=true↔(0≤e.x∧e.x≤16)∧(0≤e.y∧e.y≤16)∧(0≤e.k∧e.k≤5):=λ e=>by unfold inE7;exact decide_eq_true_iff
 rw[List.all_eq_true,List.all_eq_true,← pairE];constructor
 ·intro h;exact⟨h.cnt,(hk _ _).2 ⟨h.g64,h.ground⟩,h.klen,h.clen,h.csum,h.fixed,h.blen,h.bsort,λ s hs=>(hk _ _).2 ⟨h.kind16 s hs,h.kinds s hs⟩,λ e h'=>(he e).2 (h.bin e h')⟩
 rintro⟨a,b,c,d,e,f,g,i,j,k⟩;exact⟨((hk _ _).1 b).2,((hk _ _).1 b).1,λ s hs=>((hk _ _).1 (j s hs)).2,λ s hs=>((hk _ _).1 (j s hs)).1,c,d,a,e,f,g,λ x hx=>(he x).1 (k x hx),i⟩
theorem zgs {w:World} {base base':Nat} {e:TypeId} {size:Nat} {v:Value} {n:Nat} {xs:List Value} (h:w.ownsRow base e size v n xs) (hb:base'≤base):w.ownsRow base' e size v n xs:=by
 refine⟨h.1,?_⟩;rcases h.2 with h2|⟨g,cap,cur,hv,hb2,r⟩
 ·exact .inl h2
 exact .inr ⟨g,cap,cur,hv,yJ hb hb2,r⟩
theorem qan {t:Tk} (w:World) (vg vk vc vf vb:Value) (hg:HasQ w vg t.ground) (hk:HasQQ w vk t.kinds) (hc:RI.Has w vc t.counts) (hf:RL.Has w vf t.fixed) (hb:RE.Has w vb t.below) (hcl:t.counts.length≤1000) (hbl:t.below.length≤1000000) :
  Calls Tryz.prog 13 #[.agg #[vg,vk,vc,vf,vb]] w (CkPost t w):=by
 have HOKI:=yK (zhB (t:=t));have hkm:t.kinds.length≤9223372036854775807:=by
  rcases hk with⟨_,h⟩|⟨_,_,_,_,h1,h2,_⟩
  ·rw[h];decide
  simp only[maxLen]at h2;omega
 have hfm:t.fixed.length≤9223372036854775807:=by
  rcases hf with⟨_,h⟩|⟨_,_,_,h1,h2,_⟩
  ·rw[h];decide
  simp only[maxLen]at h2;omega
 obtain⟨gp,gc,rfl⟩:=hg.slice;obtain⟨kp,kc,rfl⟩:=hk.slice;obtain⟨cp,cc,rfl⟩:=hc.slice;obtain⟨fp,fc,rfl⟩:=hf.slice;obtain⟨bp,bc,rfl⟩:=hb.slice;have HBE:=yK hb;clear hb;have HG:=yK hg;clear hg;have HK:=yK hk;clear hk;have HC:=yK hc;clear hc;have HF:=yK hf;clear hf;generalize hpo:CkPost t w=Po;have HPO:=yK hpo;clear hpo;go_enter func13,ntmps13;go_wp2_with fail;have hT:=yd w (.cells #[.slice gp t.ground.length gc,.slice kp t.kinds.length kc,.slice cp t.counts.length cc,.slice fp t.fixed.length fc,.slice bp t.below.length bc] 34);have hB:Below w.heap.size w (w.alloc (.cells #[.slice gp t.ground.length gc,.slice kp t.kinds.length kc,.slice cp t.counts.length cc,.slice fp t.fixed.length fc,.slice bp t.below.length bc] 34)):=(yf _ w).alloc (ye _) _;revert hT hB;generalize w.alloc (.cells #[.slice gp t.ground.length gc,.slice kp t.kinds.length kc,.slice cp t.counts.length cc,.slice fp t.fixed.length fc,.slice bp t.below.length bc] 34)=w1;intro hT hB;have HB:=yK hB;clear hB;have htl:=(ya.1 hT).1;have hcell:∀ W,Below w1.heap.size w1 W→W.heap[w.heap.size]?=some (.cells #[.slice gp t.ground.length gc,.slice kp t.kinds.length kc,.slice cp t.counts.length cc,.slice fp t.fixed.length fc,.slice bp t.below.length bc] 34 (0,0)):=λ W h=>(h.block _ htl).trans hT;have HCELL:=yK hcell;clear hcell;have t2:w1.cell? ⟨w.heap.size,2,none⟩=some (.slice cp t.counts.length cc):=by simp only[World.cell?,hT];rfl
 go_wp2_with fail;clear t2 hT;go_loopw [4,16] (λ u z wr=>∃ i:Nat,i≤t.counts.length∧u=.int .i64 (t.counts.take i).sum∧z=.int .i64 i∧Hid (Below w1.heap.size w1 wr∧∀ c∈t.counts.take i,0≤c∧c≤16)) (λ _ z _=>t.counts.length-(intOf z).toNat)
 case atStart=>exact⟨0,by omega,rfl,rfl,yK ⟨yf _ _,by simp⟩⟩
 case round =>
  obtain⟨i,hi,rfl,rfl,HR⟩:=hrel;by_cases hlt:i<t.counts.length
  ·obtain⟨c,hc⟩:∃ c,t.counts[i]?=some c:=⟨_,yb hlt⟩;obtain⟨ca,rfl,hca⟩:=(HC.out.below (HB.out.trans (HR.out.1.mono HB.out.size))).at_ (by rintro e;rw[e]at hc;simp at hc);have c0:=RI.at_cell hca hc;have hsl:=zhN HR.out.2;rw[Yf]at hsl;have hsn:=zgx hc;have HSN:=yK hsn;clear hsn;have HCC:=yK hc;clear hc hca;by_cases hin:0≤c∧c≤16
   ·have HW:Hid (∀ W,Calls Tryz.prog 43 #[.int .i64 c,.int .i64 0,.int .i64 16] W λ e w'=>e=.returned (.bool true)∧w'=W):=yK λ W=>by
     refine (zB c 0 16 W).mono ?_;rintro e w' ⟨rfl,rfl⟩;exact⟨qK (yw hin),rfl⟩
    obtain⟨s,hs⟩:∃ s,(t.counts.take i).sum=s:=⟨_,rfl⟩;rw[hs]at HSN hsl;rw[hs];go_wp2_with (refine (HW.out _).mono ?_;rintro e w' ⟨rfl,rfl⟩)
    go_roundw
    case rel=>
     refine⟨i+1,by omega,by rw[HSN.out],by go_num,yK ⟨HR.out.1,λ x hx=>?_⟩⟩;rw[qo HCC.out]at hx;rcases yY.1 hx with h|h
     ·exact HR.out.2 x h
     rw[yU]at h;subst h;exact hin
    case measure=>simp[intOf];omega
   have HW:Hid (∀ W,Calls Tryz.prog 43 #[.int .i64 c,.int .i64 0,.int .i64 16] W λ e w'=>e=.returned (.bool false)∧w'=W):=yK λ W=>by
    refine (zB c 0 16 W).mono ?_;rintro e w' ⟨rfl,rfl⟩;exact⟨qK (yv hin),rfl⟩
   have HNI:=yK hin;clear hin;obtain⟨s,hs⟩:∃ s,(t.counts.take i).sum=s:=⟨_,rfl⟩;rw[hs];clear hsl HSN hs;go_wp2_with (refine (HW.out _).mono ?_;rintro e w' ⟨rfl,rfl⟩);rw[← HPO.out];refine⟨2,rfl,⟨λ h=>(by cases h),λ h=>?_⟩,.inr rfl,HB.out.trans (HR.out.1.mono HB.out.size)⟩;exact absurd ((HOKI.out.1 h).1 c (yg HCC.out)) HNI.out
  obtain rfl:i=t.counts.length:=by omega
  have hr:=HR.out;rw[Yd]at hr;obtain⟨hBr,hall⟩:=hr;rw[Yd];have HALL:=yK hall;clear hall;clear HR;have HBR:=yK hBr;clear hBr;obtain⟨S,hS⟩:∃ S,t.counts.sum=S:=⟨_,rfl⟩;rw[hS];have HSUM:=yK hS;clear hS;have hbt:=HCELL.out wr HBR.out;have d4:wr.cell? ⟨w.heap.size,4,none⟩=some (.slice bp t.below.length bc):=by simp only[World.cell?,hbt];rfl
  have hkeep:∀ w',Below wr.heap.size wr w'→w'.cell? ⟨w.heap.size,4,none⟩=some (.slice bp t.below.length bc)∧Below wr.heap.size wr w':=λ w' h=>by
   refine⟨?_,h⟩;rw[cell_of_block (h.block _ (World.block_lt_of_cell? wr _ d4))];exact d4
  have HKE:=yK hkeep;clear hkeep hbt;have hwr:w.heap.size≤wr.heap.size:=yJ HB.out.size HBR.out.size;have HWB:Hid (∀ W',Below wr.heap.size wr W'→RE.Has W' (.slice bp t.below.length bc) t.below):=yK λ W' h=>HBE.out.below (HB.out.trans ((HBR.out.trans (h.mono HBR.out.size)).mono HB.out.size));go_upto_region 10 with fail;go_cut [7]from 27 to 40 (λ u wx=>∃ r:Bool,u=.bool r∧Hid ((r=true↔AdjE t.below∧NeqE t.below)∧Below w1.heap.size w1 wx))
  case first =>
   by_cases hs:AdjE t.below
   case neg =>
    have e4:∀ d:SubW wr,d.1.cell? ⟨w.heap.size,4,none⟩=some (.slice bp t.below.length bc):=λ d=>(HKE.out d.1 d.2).1;have HS1:Hid (∀ d:SubW wr,Calls Tryz.prog 44 #[.slice bp t.below.length bc,.func (.func 45) #[] #[]] d.1 λ e w'=>e=.returned (.bool false)∧∃ d':SubW wr,w'=d'.1):=yK λ d=>(zcA t.below _ d.1 (HWB.out d.1 d.2) hbl).mono λ e w' ⟨r,h1,h2,h3⟩=>⟨by
     cases r with
     | false=>exact h1
     | true=>exact absurd (h2.1 rfl) hs,⟨w',d.2.trans (h3.mono d.2.size)⟩,rfl⟩
    refine qh 15 (by kernel_rfl) (by kernel_rfl) ?_;simp only[yh,yj,yi,yl]
    repeat (go_big_quiet_step ((exact HS1.out _)))
    refine wpQuiet_nil ?_;intro dq;have HX:=yK (HBR.out.trans (dq.2.mono HBR.out.size));go_wp2_with fail
    go_meet
    case rel=>exact⟨false,rfl,yK ⟨⟨λ h=>(by cases h),λ h=>absurd h.1 hs⟩,HX.out⟩⟩
   have HS1:Hid (∀ W',Below wr.heap.size wr W'→Calls Tryz.prog 44 #[.slice bp t.below.length bc,.func (.func 45) #[] #[]] W' λ e w'=>e=.returned (.bool true)∧Below wr.heap.size wr w'):=yK λ W' hW=>(zcA t.below _ W' (HWB.out W' hW) hbl).mono λ e w' ⟨r,h1,h2,h3⟩=>⟨by
    cases r with
    | true=>exact h1
    | false=>exact absurd (h2.2 hs) (by decide),hW.trans (h3.mono hW.size)⟩
   have HS2:Hid (∀ W',Below wr.heap.size wr W'→Calls Tryz.prog 47 #[.slice bp t.below.length bc] W' λ e w'=>∃ p c,e=.returned (.slice p t.below.length c)∧OwnEd w' wr.heap.size (.slice p t.below.length c) t.below∧Below wr.heap.size wr w'):=yK λ W' hW=>(qfb t.below _ W' (HWB.out W' hW) hbl).mono λ e w' ⟨u,h1,h2,h3⟩=>by
    obtain⟨p,c,rfl⟩:=qg h2;exact⟨p,c,h1,zgs h2 hW.size,hW.trans (h3.mono hW.size)⟩
   have HS3:Hid (∀ W' v',OwnEd W' wr.heap.size v' t.below→Below wr.heap.size wr W'→Calls Tryz.prog 46 #[v'] W' λ e w'=>∃ (p:Option Addr) (n c:Nat),e=.returned (.slice p n c)∧(n=t.below.length↔NeqE t.below)∧Below wr.heap.size wr w'):=yK λ W' v' ho hW=>(qdR t.below v' wr.heap.size W' ho hW.size hbl).mono λ e w' ⟨p,n,c,h1,h2,_,h4⟩=>⟨p,n,c,h1,h2,hW.trans h4⟩;have HD:Hid (Below wr.heap.size wr wr.drew):=yK ((yf _ wr).drew);clear d4;go_region_held3 (λ w'=>w'.cell? ⟨w.heap.size,4,none⟩=some (.slice bp t.below.length bc)∧Below wr.heap.size wr w') (first|exact HKE.out _ (by assumption)|exact HKE.out _ HD.out)
    (first
     | (go_at_call 44;refine (HS1.out wr.drew HD.out).mono ?_;rintro e wa ⟨rfl,hBa⟩)
     | (go_at_call 47;refine (HS2.out wa hBa).mono ?_;rintro e wb ⟨p2,c2,rfl,ho2,hBb⟩)
     | (go_at_call 46;refine (HS3.out wb _ ho2 hBb).mono ?_;rintro e w' ⟨p3,n3,c3,rfl,hn3,hBc⟩))
   have HX:=yK (HBR.out.trans (hBc.mono HBR.out.size));go_wp2_with fail
   go_meet
   case rel=>exact⟨_,rfl,yK ⟨⟨λ h=>⟨hs,hn3.1 (by have:=eq_of_beq h;omega)⟩,λ h=>by rw[beq_iff_eq,hn3.2 h.2]⟩,HX.out⟩⟩
  obtain⟨r,rfl,H10⟩:=hcut;clear HKE HWB d4 hwr;have hbt2:=HCELL.out wc H10.out.2;have e0:wc.cell? ⟨w.heap.size,0,none⟩=some (.slice gp t.ground.length gc):=by simp only[World.cell?,hbt2];rfl
  have hBw2:=HB.out.trans (H10.out.2.mono HB.out.size);have HIS:=yK (qfU t.ground _ 64 (by decide) wc (HG.out.below hBw2));clear hBw2 hbt2;go_upto_region 11 with fail;go_cut [8]from 41 to 78 (λ u wx=>∃ b:Bool,u=.bool b∧Hid ((b=true↔isK t.ground 64=true∧(1≤t.kinds.length∧t.kinds.length≤8)∧t.counts.length=t.kinds.length∧t.counts.sum≤16∧t.fixed.length≤16∧t.below.length≤400∧r=true)∧Below w1.heap.size w1 wx))
  case first =>
   go_wp2_with fail;refine HIS.out.mono ?_;rintro e w3 ⟨rfl,hB3⟩;have HB3:=yK (H10.out.2.trans (hB3.mono H10.out.2.size));clear hB3 HIS H10 e0;have hbt3:=HCELL.out w3 HB3.out;have e1:w3.cell? ⟨w.heap.size,1,none⟩=some (.slice kp t.kinds.length kc):=(by simp only[World.cell?,hbt3];rfl);have e2:w3.cell? ⟨w.heap.size,2,none⟩=some (.slice cp t.counts.length cc):=(by simp only[World.cell?,hbt3];rfl);have e3:w3.cell? ⟨w.heap.size,3,none⟩=some (.slice fp t.fixed.length fc):=(by simp only[World.cell?,hbt3];rfl);have e4:w3.cell? ⟨w.heap.size,4,none⟩=some (.slice bp t.below.length bc):=(by simp only[World.cell?,hbt3];rfl);clear hbt3;obtain⟨g1,hg1⟩:∃ g1,isK t.ground 64=g1:=⟨_,rfl⟩;rw[hg1];have HG1:=yK hg1;clear hg1
   cases g1 with
   | false =>
    go_wp2_with fail
    go_meet
    case rel=>exact⟨false,rfl,yK ⟨⟨λ h=>(by cases h),λ h=>(by have:=h.1;rw[HG1.out]at this;cases this)⟩,HB3.out⟩⟩
   | true =>
    by_cases h2:1≤t.kinds.length∧t.kinds.length≤8
    case neg =>
     have HW:Hid (∀ W,Calls Tryz.prog 43 #[.int .i64 t.kinds.length,.int .i64 1,.int .i64 8] W λ e w'=>e=.returned (.bool false)∧w'=W):=yK λ W=>by
      refine (zB _ 1 8 W).mono ?_;rintro e w' ⟨rfl,rfl⟩;exact⟨qK (yv (by omega)),rfl⟩
     have H2:=yK h2;clear h2;go_wp2_with fail;refine (HW.out _).mono ?_;rintro e w' ⟨rfl,rfl⟩;go_wp2_with fail
     go_meet
     case rel=>exact⟨false,rfl,yK ⟨⟨λ h=>(by cases h),λ h=>absurd h.2.1 H2.out⟩,HB3.out⟩⟩
    have HW:Hid (∀ W,Calls Tryz.prog 43 #[.int .i64 t.kinds.length,.int .i64 1,.int .i64 8] W λ e w'=>e=.returned (.bool true)∧w'=W):=yK λ W=>by
     refine (zB _ 1 8 W).mono ?_;rintro e w' ⟨rfl,rfl⟩;exact⟨qK (yw (by omega)),rfl⟩
    have H2:=yK h2;clear h2;by_cases h3:t.counts.length=t.kinds.length
    case neg =>
     have hd3:((t.counts.length:Int)==(t.kinds.length:Int))=false:=(by simp only[Yt,ne_eq];omega);have H3:=yK h3;clear h3;go_wp2_with fail;refine (HW.out _).mono ?_;rintro e w' ⟨rfl,rfl⟩;go_wp2_with fail
     go_meet
     case rel=>exact⟨false,rfl,yK ⟨⟨λ h=>(by cases h),λ h=>absurd h.2.2.1 H3.out⟩,HB3.out⟩⟩
    have hd3:((t.counts.length:Int)==(t.kinds.length:Int))=true:=(by rw[h3];exact beq_self_eq_true _);have H3:=yK h3;clear h3;by_cases h4:S≤16
    case neg =>
     have hd4:decide (S≤16)=false:=yv h4;have H4:=yK h4;clear h4;go_wp2_with fail;refine (HW.out _).mono ?_;rintro e w' ⟨rfl,rfl⟩;go_wp2_with fail
     go_meet
     case rel=>exact⟨false,rfl,yK ⟨⟨λ h=>(by cases h),λ h=>absurd h.2.2.2.1 (by have:=H4.out;rw[HSUM.out];omega)⟩,HB3.out⟩⟩
    have hd4:decide (S≤16)=true:=yw h4;have H4:=yK h4;clear h4;by_cases h5:t.fixed.length≤16
    case neg =>
     have hd5:decide ((t.fixed.length:Int)≤16)=false:=yv (by omega);have H5:=yK h5;clear h5;go_wp2_with fail;refine (HW.out _).mono ?_;rintro e w' ⟨rfl,rfl⟩;go_wp2_with fail
     go_meet
     case rel=>exact⟨false,rfl,yK ⟨⟨λ h=>(by cases h),λ h=>absurd h.2.2.2.2.1 H5.out⟩,HB3.out⟩⟩
    have hd5:decide ((t.fixed.length:Int)≤16)=true:=yw (by omega);have H5:=yK h5;clear h5;by_cases h6:t.below.length≤400
    case neg =>
     have hd6:decide ((t.below.length:Int)≤400)=false:=yv (by omega);have H6:=yK h6;clear h6;go_wp2_with fail;refine (HW.out _).mono ?_;rintro e w' ⟨rfl,rfl⟩;go_wp2_with fail
     go_meet
     case rel=>exact⟨false,rfl,yK ⟨⟨λ h=>(by cases h),λ h=>absurd h.2.2.2.2.2.1 H6.out⟩,HB3.out⟩⟩
    have hd6:decide ((t.below.length:Int)≤400)=true:=yw (by omega);have H6:=yK h6;clear h6;go_wp2_with fail;refine (HW.out _).mono ?_;rintro e w' ⟨rfl,rfl⟩;go_wp2_with fail
    go_meet
    case rel=>exact⟨r,rfl,yK ⟨⟨λ h=>⟨HG1.out,H2.out,H3.out,by rw[HSUM.out];exact H4.out,H5.out,H6.out,h⟩,λ h=>h.2.2.2.2.2.2⟩,HB3.out⟩⟩
  obtain⟨b,rfl,H11⟩:=hcut;clear HIS e0;have hbt3:=HCELL.out wc H11.out.2;have e1:wc.cell? ⟨w.heap.size,1,none⟩=some (.slice kp t.kinds.length kc):=by simp only[World.cell?,hbt3];rfl
  clear hbt3;have HB3:Hid (Below w1.heap.size w1 wc):=yK H11.out.2;go_wp2_with fail;go_loopw [8,82] (λ u z wr=>∃ i:Nat,i≤t.kinds.length∧u=.bool (b&&(t.kinds.take i).all λ s=>isK s 16)∧z=.int .i64 i∧Hid (Below w1.heap.size w1 wr)) (λ _ z _=>t.kinds.length-(intOf z).toNat)
  case atStart=>exact⟨0,by omega,by simp,rfl,HB3⟩
  clear HB3 e1;obtain⟨i,hi,rfl,rfl,HR⟩:=hrel;by_cases hlt:i<t.kinds.length
  case pos =>
   obtain⟨s,hs⟩:∃ s,t.kinds[i]?=some s:=⟨_,yb hlt⟩;obtain⟨ka,sv,rfl,hks,hsv⟩:=(HK.out.below (HB.out.trans (HR.out.mono HB.out.size))).at hs;obtain⟨sp,sc,rfl⟩:=hsv.slice;obtain⟨A,hA⟩:∃ A,(b&&(t.kinds.take i).all λ s=>isK s 16)=A:=⟨_,rfl⟩;have HAS:Hid ((b&&(t.kinds.take (i+1)).all λ s=>isK s 16)=(A&&isK s 16)):=yK (by rw[qdC (f:=λ s=>isK s 16) hs,← Bool.and_assoc,hA]);have HIS:=yK (qfU s _ 16 (by decide) wr hsv);clear hsv hs;rw[hA];clear hA
   cases A with
   | true =>
    go_wp2_with fail;refine HIS.out.mono ?_;rintro e w5 ⟨rfl,hB5⟩;have HB5:=yK (HR.out.trans (hB5.mono HR.out.size));clear hB5 HIS hks HR;go_wp2_with fail
    go_roundw
    case rel=>exact⟨i+1,by omega,by rw[HAS.out];simp only[Bool.true_and],by go_num,HB5⟩
    case measure=>simp[intOf];omega
   | false =>
    go_wp2_with fail
    go_roundw
    case rel=>exact⟨i+1,by omega,by rw[HAS.out];rfl,by go_num,HR⟩
    case measure=>simp[intOf];omega
  obtain rfl:i=t.kinds.length:=by omega
  rw[Yd];have hbt4:=HCELL.out wr HR.out;have e4:wr.cell? ⟨w.heap.size,4,none⟩=some (.slice bp t.below.length bc):=by simp only[World.cell?,hbt4];rfl
  clear hbt4;obtain⟨b2,hb2⟩:∃ b2,(b&&t.kinds.all λ s=>isK s 16)=b2:=⟨_,rfl⟩;rw[hb2];have H12:=yK hb2;clear hb2;go_wp2_with fail;clear e4;go_loopw [8,96] (λ u z wr=>∃ i:Nat,i≤t.below.length∧u=.bool (b2&&(t.below.take i).all inE7)∧z=.int .i64 i∧Hid (Below w1.heap.size w1 wr)) (λ _ z _=>t.below.length-(intOf z).toNat)
  case atStart=>exact⟨0,by omega,by simp,rfl,HR⟩
  clear HR;obtain⟨i,hi,rfl,rfl,HR⟩:=hrel;by_cases hlt:i<t.below.length
  case pos =>
   obtain⟨e,he⟩:∃ e,t.below[i]?=some e:=⟨_,yb hlt⟩;obtain⟨xa,rfl,hat⟩:=(HBE.out.below (HB.out.trans (HR.out.mono HB.out.size))).at_ (by rintro e';rw[e']at he;simp at he);have hld:(Instr.loadAt 61 (.pointer (some (xa.add (i*3))))).run Tryz.prog wr=.ok (.agg (eVals e).toArray) wr:=qj (P:=Tryz.prog) (R:=RE) underlying61 rfl (by kernel_rfl) hat he;obtain⟨A,hA⟩:∃ A,(b2&&(t.below.take i).all inE7)=A:=⟨_,rfl⟩;have HAS:Hid ((b2&&(t.below.take (i+1)).all inE7)=(A&&inE7 e)):=yK (by rw[qdC he,← Bool.and_assoc,hA]);rw[hA];clear hA hat he;have hsze:(Tryz.prog.info? 61).map (·.size)=some (eVals e).toArray.size:=(by kernel_rfl);have honee:(eVals e).toArray.all (·.oneCell')=true:=(by simp[eVals,Value.oneCell']);go_upto_region 20 with (first
    | (refine zl rfl 61 _ rfl rfl hld ?_)
    | (refine wpList_store_row rfl 61 _ _ rfl wr.heap.size rfl 61 _ (eVals e).toArray rfl (yd wr _) hsze rfl honee ?_;rw[World.setRow_alloc_new]))
   have hE:=yd wr (.cells (eVals e).toArray 61);have hbl:Below wr.heap.size wr (wr.alloc (.cells (eVals e).toArray 61)):=(yf _ wr).alloc (ye _) _;revert hE hbl;generalize wr.alloc (.cells (eVals e).toArray 61)=w3;intro hE hbl;have HB3:=yK (HR.out.trans (hbl.mono HR.out.size));clear hbl hld HR hsze honee;generalize wr.heap.size=eb at *;obtain⟨ex,ey,ek⟩:=e;have c0:w3.cell? ⟨eb,0,none⟩=some (.int .i64 ex):=(by simp[World.cell?,hE,eVals]);have c1:w3.cell? ⟨eb,1,none⟩=some (.int .i64 ey):=(by simp[World.cell?,hE,eVals]);have c2:w3.cell? ⟨eb,2,none⟩=some (.int .i64 ek):=(by simp[World.cell?,hE,eVals]);clear hE
   cases A with
   | false =>
    clear c0 c1 c2;go_wp2_with fail
    go_roundw
    case rel=>exact⟨i+1,by omega,by rw[HAS.out];rfl,by go_num,HB3⟩
    case measure=>simp[intOf];omega
   | true =>
    obtain⟨q1,hq1⟩:∃ q1,decide (0≤ex∧ex≤16)=q1:=⟨_,rfl⟩;obtain⟨q2,hq2⟩:∃ q2,decide (0≤ey∧ey≤16)=q2:=⟨_,rfl⟩;obtain⟨q3,hq3⟩:∃ q3,decide (0≤ek∧ek≤5)=q3:=⟨_,rfl⟩;have hin:inE7 ⟨ex,ey,ek⟩=(q1&&(q2&&q3)):=by
     rw[← hq1,← hq2,← hq3];unfold inE7;simp only[Bool.decide_and]
    rw[hin]at HAS;have HW1:Hid (∀ W,Calls Tryz.prog 43 #[.int .i64 ex,.int .i64 0,.int .i64 16] W λ e w'=>e=.returned (.bool q1)∧w'=W):=yK λ W=>by
     refine (zB _ 0 16 W).mono ?_;rintro e w' ⟨rfl,rfl⟩;exact⟨qK (by rw[← hq1]),rfl⟩
    have HW2:Hid (∀ W,Calls Tryz.prog 43 #[.int .i64 ey,.int .i64 0,.int .i64 16] W λ e w'=>e=.returned (.bool q2)∧w'=W):=yK λ W=>by
     refine (zB _ 0 16 W).mono ?_;rintro e w' ⟨rfl,rfl⟩;exact⟨qK (by rw[← hq2]),rfl⟩
    have HW3:Hid (∀ W,Calls Tryz.prog 43 #[.int .i64 ek,.int .i64 0,.int .i64 5] W λ e w'=>e=.returned (.bool q3)∧w'=W):=yK λ W=>by
     refine (zB _ 0 5 W).mono ?_;rintro e w' ⟨rfl,rfl⟩;exact⟨qK (by rw[← hq3]),rfl⟩
    clear hin hq1 hq2 hq3
    cases q1 with
    | false =>
     go_wp2_with fail;refine (HW1.out _).mono ?_;rintro e w' ⟨rfl,rfl⟩;go_wp2_with fail
     go_roundw
     case rel=>exact⟨i+1,by omega,by rw[HAS.out];rfl,by go_num,HB3⟩
     case measure=>simp[intOf];omega
    | true =>
     cases q2 with
     | false =>
      go_wp2_with fail;refine (HW1.out _).mono ?_;rintro e w' ⟨rfl,rfl⟩;go_wp2_with fail;refine (HW2.out _).mono ?_;rintro e w' ⟨rfl,rfl⟩;go_wp2_with fail
      go_roundw
      case rel=>exact⟨i+1,by omega,by rw[HAS.out];rfl,by go_num,HB3⟩
      case measure=>simp[intOf];omega
     | true =>
      go_wp2_with fail;refine (HW1.out _).mono ?_;rintro e w' ⟨rfl,rfl⟩;go_wp2_with fail;refine (HW2.out _).mono ?_;rintro e w' ⟨rfl,rfl⟩;go_wp2_with fail;refine (HW3.out _).mono ?_;rintro e w' ⟨rfl,rfl⟩;go_wp2_with fail
      go_roundw
      case rel=>exact⟨i+1,by omega,by rw[HAS.out];simp only[Bool.true_and],by go_num,HB3⟩
      case measure=>simp[intOf];omega
  obtain rfl:i=t.below.length:=by omega
  rw[Yd];obtain⟨b3,hb3⟩:∃ b3,(b2&&t.below.all inE7)=b3:=⟨_,rfl⟩;rw[hb3];have HFIN:Hid (b3=true↔OkT t):=yK (by
   rw[← hb3,← H12.out,HOKI.out,Yr,Yr,H11.out.1,H10.out.1];constructor
   ·rintro⟨⟨⟨x1,x2,x3,x4,x5,x6,x7⟩,x8⟩,x9⟩;exact⟨HALL.out,x1,x2,x3,x4,x5,x6,x7,x8,x9⟩
   rintro⟨_,x1,x2,x3,x4,x5,x6,x7,x8,x9⟩;exact⟨⟨⟨x1,x2,x3,x4,x5,x6,x7⟩,x8⟩,x9⟩)
  clear hb3
  cases b3 with
  | true =>
   have HY:=yK (HFIN.out.1 rfl);clear HFIN;go_wp2_with fail;rw[← HPO.out];exact⟨0,rfl,⟨λ _=>HY.out,λ _=>rfl⟩,.inl rfl,HB.out.trans (HR.out.mono HB.out.size)⟩
  | false =>
   have HY:Hid (¬ OkT t):=yK (λ h=>by have:=HFIN.out.2 h;cases this);clear HFIN;go_wp2_with fail;rw[← HPO.out];exact⟨2,rfl,⟨λ h=>(by cases h),λ h=>absurd h HY.out⟩,.inr rfl,HB.out.trans (HR.out.mono HB.out.size)⟩
theorem qhT {t:Tk} (ho:OkT t) {L:List E} (hL:LOk t.ground L):∀ e∈L,okE e:=λ e he=>by
 obtain⟨q,hq,hqe⟩:=(hL.mem e).1 he;exact qaB ((ql ho.ground).1.1 q hq) e hqe
theorem qgn {t:Tk} (ho:OkT t):∀ e∈t.below,okE e:=λ e he=>ho.bin e he
theorem zcc {t:Tk} (ho:OkT t) {L:List E} (hL:LOk t.ground L) (w:World) (bb:Nat) (bv:BV) (hb:BdAt w bb bv t L (pcsT t L) (belT t L)) (htb:TbAt w) (l:List Ld) (h16:l.length≤16) (v:Value) (hv:RL.Has w v l) (hjs:RE.Has w bv.b t.below) :
  Calls Tryz.prog 59 #[.pointer (some ⟨bb,0,none⟩),v] w (CovPost t t.below L l w) :=
 qfi (qX ho hL) w bb bv hb htb l h16 v hv hjs ho.fixed (yJ ho.blen (by decide)) hL.nodup (qhT ho hL) (qgn ho)
def CovTask (t:Tk) (l:List Ld) (w:World) (e:Ending) (w':World):Prop:=∃ n i code:Nat,e=.returned (.tuple #[.int .i64 n,.int .i64 i,.int .i64 code])∧Below w.heap.size w w' ∧
 (¬ OkT t→(n,i,code)=(0,0,2))∧(OkT t→16<l.length→(n,i,code)=(0,0,5))∧(OkT t→l.length≤16→(n,i)=coversT t l∧code=0)
theorem qfk {t:Tk} (w:World) (vg vk vc vf vb v:Value) (hg:HasQ w vg t.ground) (hk:HasQQ w vk t.kinds) (hc:RI.Has w vc t.counts) (hcf:flatV vc) (hf:RL.Has w vf t.fixed) (hb:RE.Has w vb t.below) (hcl:t.counts.length≤1000) (hbl:t.below.length≤1000000) (htb:TbAt w) (l:List Ld) (hll:l.length≤1000000) (hv:RL.Has w v l) :
  Calls Tryz.prog 19 #[.agg #[vg,vk,vc,vf,vb],v] w (CovTask t l w):=by
 obtain⟨gp,gc,rfl⟩:=hg.slice;obtain⟨kp,kc,rfl⟩:=hk.slice;obtain⟨cp,cc,rfl⟩:=hc.slice;obtain⟨fp,fc,rfl⟩:=hf.slice;obtain⟨bp,bc,rfl⟩:=hb.slice;obtain⟨vp,vq,rfl⟩:=hv.slice;have hCK:∀ W,Below w.heap.size w W→Calls Tryz.prog 13 #[.agg #[.slice gp t.ground.length gc,.slice kp t.kinds.length kc,.slice cp t.counts.length cc,.slice fp t.fixed.length fc,.slice bp t.below.length bc]] W (CkPost t W) :=
  λ W h=>qan W _ _ _ _ _ (hg.below h) (hk.below h) (hc.below h) (hf.below h) (hb.below h) hcl hbl
 have hLY:OkT t→∀ W,Below w.heap.size w W→Calls Tryz.prog 37 #[.agg #[.slice gp t.ground.length gc,.slice kp t.kinds.length kc,.slice cp t.counts.length cc,.slice fp t.fixed.length fc,.slice bp t.below.length bc]] W λ e w'=>∃ (bb:Nat) (bv:BV) (L:List E),e=.returned (.pointer (some ⟨bb,0,none⟩))∧W.heap.size≤bb∧BdAt w' bb bv t L (pcsT t L) (belT t L)∧LOk t.ground L∧Below W.heap.size W w'∧bv.b=.slice bp t.below.length bc :=
  λ ho W h=>(zbh ho W _ _ _ _ _ (hg.below h) (hk.below h) (hc.below h) hcf (hf.below h) (hb.below h)).mono λ e w' ⟨bb,bv,L,h1,h2,h3,h4,h5,h6⟩=>⟨bb,bv,L,h1,h2,h3,h4,h5,h6.b⟩
 have hCV:∀ W bb bv L,OkT t→l.length≤16→Below w.heap.size w W→LOk t.ground L→BdAt W bb bv t L (pcsT t L) (belT t L)→bv.b=.slice bp t.below.length bc→Calls Tryz.prog 59 #[.pointer (some ⟨bb,0,none⟩),.slice vp l.length vq] W (CovPost t t.below L l W) :=
  λ W bb bv L ho h16 h hl hbd hbe=>zcc ho hl W bb bv hbd (htb.below h) l h16 _ (hv.below h) (by rw[hbe];exact hb.below h)
 have HCK:=yK hCK;clear hCK;have HLY:=yK hLY;clear hLY;have HCV:=yK hCV;clear hCV hg hk hc hf htb hcf hv hb;go_enter func19,ntmps19;go_wp2_with fail;have hT:=yd w (.cells #[.slice gp t.ground.length gc,.slice kp t.kinds.length kc,.slice cp t.counts.length cc,.slice fp t.fixed.length fc,.slice bp t.below.length bc] 34);have hB:Below w.heap.size w (w.alloc (.cells #[.slice gp t.ground.length gc,.slice kp t.kinds.length kc,.slice cp t.counts.length cc,.slice fp t.fixed.length fc,.slice bp t.below.length bc] 34)):=(yf _ w).alloc (ye _) _;revert hT hB;generalize w.alloc (.cells #[.slice gp t.ground.length gc,.slice kp t.kinds.length kc,.slice cp t.counts.length cc,.slice fp t.fixed.length fc,.slice bp t.below.length bc] 34)=w1;intro hT hB;have HB:=yK hB;clear hB;have htl:=(ya.1 hT).1;refine (HCK.out w1 HB.out).mono ?_;rintro e w2 ⟨code,rfl,h0,h2,hB2⟩;have hT2:=(hB2.block _ htl).trans hT;have HB2:=yK (HB.out.trans (hB2.mono HB.out.size));clear hB2 HB htl;rcases h2 with rfl|rfl
 case inr =>
  have HNO:Hid (¬ OkT t):=yK λ h=>absurd (h0.2 h) (by decide);clear h0 hT2 hT;go_wp2_with fail;refine Yc (zbD rfl _ _ _ _ _ rfl rfl rfl) rfl ?_;exact⟨0,0,2,rfl,HB2.out,λ _=>rfl,λ h=>absurd h HNO.out,λ h=>absurd h HNO.out⟩
 case inl =>
  have HOK:Hid (OkT t):=yK (h0.1 rfl);have hcell:∀ j,w2.cell? ⟨w.heap.size,j,none⟩=(#[.slice gp t.ground.length gc,.slice kp t.kinds.length kc,.slice cp t.counts.length cc,.slice fp t.fixed.length fc,.slice bp t.below.length bc]:Array Value)[j]?:=λ j=>by simp only[World.cell?,hT2];simp
  have c0:=hcell 0;have c1:=hcell 1;have c2:=hcell 2;have c3:=hcell 3;have c4:=hcell 4;simp at c0 c1 c2 c3 c4;clear hcell hT HCK hT2 h0;have HL:=yK (HLY.out HOK.out w2 HB2.out);clear HLY;by_cases h16:l.length≤16
  case neg =>
   have hgt:decide ((16:Int)<(l.length:Int))=true:=yw (by omega);clear c0 c1 c2 c3 c4;have H16:=yK h16;clear h16;go_wp2_with fail;refine Yc (zbD rfl _ _ _ _ _ rfl rfl rfl) rfl ?_;exact⟨0,0,5,rfl,HB2.out,λ h=>absurd HOK.out h,λ _ _=>rfl,λ _ h=>absurd h H16.out⟩
  have hgt:decide ((16:Int)<(l.length:Int))=false:=yv (by omega);have H16:=yK h16;clear h16;go_wp2_with fail;refine HL.out.mono ?_;rintro e w3 ⟨bb,bv,L,rfl,hbb,hbd,hlok,hB3,hbe⟩;have HB3:=yK (HB2.out.trans (hB3.mono HB2.out.size));clear hB3 HL;have HC2:=yK (HCV.out w3 bb bv L HOK.out H16.out HB3.out hlok hbd hbe);clear HCV hbd hlok c0 c1 c2 c3 c4 hbb hbe;go_wp2_with fail;refine HC2.out.mono ?_;rintro e w4 ⟨n,i,cS,rfl,hcv,hB4,hsz,hone,_⟩;have HCO:=yK hcv;clear hcv;have HB4:=yK (HB3.out.trans (hB4.mono HB3.out.size));clear hB4 HC2;have hss:(Tryz.prog.info? 108).map (·.size)=some cS.size:=by rw[← hsz];exact sizeS
  have hszF:(Tryz.prog.info? 135).map (·.size)=some (#[.int .i64 n,.int .i64 i]:Array Value).size:=by kernel_rfl
  obtain⟨cF,hcF⟩:∃ cF:Array Value,#[.int .i64 n,.int .i64 i]=cF:=⟨_,rfl⟩;rw[hcF]at hszF ⊢;have honF:cF.all (·.oneCell')=true:=by rw[← hcF];simp[Value.oneCell']
  have hsF:(#[.int .i64 0,.int .i64 0]:Array Value).size=cF.size:=by rw[← hcF];rfl
  have HCF:=yK hcF;clear hcF;have hF1:=(qU w4 (.cells #[.int .i64 0,.int .i64 0] 135) (.cells (hsVals zeroS).toArray 108)).1;have hS1:=(setRow_other ((w4.alloc (.cells #[.int .i64 0,.int .i64 0] 135)).alloc (.cells (hsVals zeroS).toArray 108)) w4.heap.size (w4.heap.size+1) cF (by omega)).trans (qU w4 (.cells #[.int .i64 0,.int .i64 0] 135) (.cells (hsVals zeroS).toArray 108)).2.1;go_upto_region 7 with (first
   | (refine wpList_store_row rfl 135 _ _ rfl w4.heap.size rfl 135 _ cF rfl hF1 hszF hsF honF ?_)
   | (refine wpList_store_row rfl 108 _ _ rfl (w4.heap.size+1) rfl 108 _ cS rfl hS1 hss hsz hone ?_))
  simp only[Act.put];have hF2:((((w4.alloc (.cells #[.int .i64 0,.int .i64 0] 135)).alloc (.cells (hsVals zeroS).toArray 108)).setRow w4.heap.size cF).setRow (w4.heap.size+1) cS).heap[w4.heap.size]?=some (.cells cF 135 (0,0)):=(setRow_other _ _ _ _ (by omega)).trans (setRow_heap _ _ _ _ _ _ hF1);have hBF:Below w.heap.size w ((((w4.alloc (.cells #[.int .i64 0,.int .i64 0] 135)).alloc (.cells (hsVals zeroS).toArray 108)).setRow w4.heap.size cF).setRow (w4.heap.size+1) cS):=zg (zg (HB4.out.trans ((qU w4 _ _).2.2.mono HB4.out.size)) HB4.out.size _) (by have:=HB4.out.size;omega) _;have HBF:=yK hBF;clear hBF hF1 hS1;revert hF2 HBF;change _→_→Code.wp _ _ _ _ ((((w4.alloc (.cells #[.int .i64 0,.int .i64 0] 135)).alloc (.cells (hsVals zeroS).toArray 108)).setRow w4.heap.size cF).setRow (w4.heap.size+1) cS);generalize ((((w4.alloc (.cells #[.int .i64 0,.int .i64 0] 135)).alloc (.cells (hsVals zeroS).toArray 108)).setRow w4.heap.size cF).setRow (w4.heap.size+1) cS)=w5;intro hF HBF;have f0:∀ d:SubW w5,d.1.cell? ⟨w4.heap.size,0,none⟩=some (.int .i64 n):=λ d=>by rw[← HCF.out]at hF;simp[World.cell?,d.block hF]
  have f1:∀ d:SubW w5,d.1.cell? ⟨w4.heap.size,1,none⟩=some (.int .i64 i):=λ d=>by rw[← HCF.out]at hF;simp[World.cell?,d.block hF]
  clear hF hsz hone hss hszF honF hsF;refine qh 7 (by kernel_rfl) (by kernel_rfl) ?_;simp only[yh,yj,yi,yl]
  repeat (go_big_quiet_step (fail))
  refine wpQuiet_nil ?_;intro dq;have hB6:=HBF.out.trans (dq.2.mono HBF.out.size);clear f0 f1;revert hB6;generalize dq.1=w6;intro hB6;go_wp2_with fail;refine Yc (zbD rfl _ _ _ _ _ rfl rfl rfl) rfl ?_;exact⟨n,i,0,rfl,hB6,λ h=>absurd HOK.out h,λ _ h=>absurd h (by have:=H16.out;omega),λ _ _=>⟨HCO.out,rfl⟩⟩
theorem zfp (n i:Nat) (W:World):(Op.equalIn 10000 135 (.agg #[.int .i64 n,.int .i64 i]) (.agg #[.int .i64 0,.int .i64 0])).run Tryz.prog W=.ok (decide ((n,i)=(0,0))) W:=by
 rw[run_equalIn_agg W 9999 135 _ _ (by kernel_rfl) (by kernel_rfl)];by_cases h1:n=0 <;> by_cases h2:i=0 <;> simp[go_sem,h1,h2]
theorem BdAt.row {W W':World} {bb b0 base:Nat} {bv:BV} {t:Tk} {L:List E} {ps:List (List HP)} {bel:W3} {vg vk vc vf vb:Value} (h:BdAt W bb bv t L ps bel) (ho:BvOwn W base bv vg vk vc vf vb ps) (hbb:base≤bb) (hb0:b0<base)
  (e:∀ k,k≠b0→W'.heap[k]?=W.heap[k]?) (hg:HasQ W' vg t.ground) (hk:HasQQ W' vk t.kinds) (hc:RI.Has W' vc t.counts) (hf:RL.Has W' vf t.fixed) (hb:∃ js,RE.Has W' vb js):BdAt W' bb bv t L ps bel:=by
 have hpp:OwnPP W' base bv.pv bv.pvs ps:=⟨zi ho.pp.own λ k hk=>e k (by have:=(zf ho.pp.own hk).1;omega),ho.pp.len,λ i u l hu hl=>zi (ho.pp.each i u l hu hl) λ k hk=>e k (by have:=(zf (ho.pp.each i u l hu hl) hk).1;omega),ho.pp.apart⟩;refine⟨(e bb (by omega)).trans h.blk,by rw[ho.g];exact hg,by rw[ho.k];exact hk,by rw[ho.c];exact hc,by rw[ho.f];exact hf,by rw[ho.b];exact hb,?_,?_,hpp.has,h.cflat⟩
 ·exact (e _ (by have:=ho.qm;omega)).trans h.quarter
 ·exact (e _ (by have:=ho.em;omega)).trans h.edge
def qdD (t:Tk) (l:List Ld) (vb:Value) (w:World) (e:Ending) (w':World):Prop:=Below w.heap.size w w' ∧
 ((∃ code:Nat,e=.returned (.tuple #[.pointer none,.agg (hsVals zeroS).toArray,.int .i64 code])∧((¬ OkT t∧code=2)∨(OkT t∧16<l.length∧code=5)∨(OkT t∧l.length≤16∧coversT t l≠(0,0)∧code=9))) ∨
  (∃ (bb:Nat) (bv:BV) (L:List E) (S:HS),e=.returned (.tuple #[.pointer (some ⟨bb,0,none⟩),.agg (hsVals S).toArray,.int .i64 0])∧OkT t∧l.length≤16∧coversT t l=(0,0)∧BdAt w' bb bv t L (pcsT t L) (belT t L)∧LOk t.ground L∧StT t.ground L (parts t l) S∧RP.Own w' (w.heap.size+2) S.laid ((parts t l).map (hpT t.ground L))∧bv.b=vb))
theorem zgl {t:Tk} (w:World) (vg vk vc vf vb v:Value) (hg:HasQ w vg t.ground) (hk:HasQQ w vk t.kinds) (hc:RI.Has w vc t.counts) (hcf:flatV vc) (hf:RL.Has w vf t.fixed) (hb:RE.Has w vb t.below) (hcl:t.counts.length≤1000) (hbl:t.below.length≤1000000) (htb:TbAt w) (l:List Ld) (hll:l.length≤1000000) (hv:RL.Has w v l) :
  Calls Tryz.prog 54 #[.agg #[vg,vk,vc,vf,vb],v] w (qdD t l vb w):=by
 obtain⟨gp,gc,rfl⟩:=hg.slice;obtain⟨kp,kc,rfl⟩:=hk.slice;obtain⟨cp,cc,rfl⟩:=hc.slice;obtain⟨fp,fc,rfl⟩:=hf.slice;obtain⟨bp,bc,rfl⟩:=hb.slice;obtain⟨vp,vq,rfl⟩:=hv.slice;have hCK:∀ W,Below w.heap.size w W→Calls Tryz.prog 13 #[.agg #[.slice gp t.ground.length gc,.slice kp t.kinds.length kc,.slice cp t.counts.length cc,.slice fp t.fixed.length fc,.slice bp t.below.length bc]] W (CkPost t W) :=
  λ W h=>qan W _ _ _ _ _ (hg.below h) (hk.below h) (hc.below h) (hf.below h) (hb.below h) hcl hbl
 have hLY:OkT t→∀ W,Below w.heap.size w W→Calls Tryz.prog 37 #[.agg #[.slice gp t.ground.length gc,.slice kp t.kinds.length kc,.slice cp t.counts.length cc,.slice fp t.fixed.length fc,.slice bp t.below.length bc]] W λ e w'=>∃ (bb:Nat) (bv:BV) (L:List E),e=.returned (.pointer (some ⟨bb,0,none⟩))∧W.heap.size≤bb∧BdAt w' bb bv t L (pcsT t L) (belT t L)∧LOk t.ground L∧Below W.heap.size W w'∧BvOwn w' W.heap.size bv (.slice gp t.ground.length gc) (.slice kp t.kinds.length kc) (.slice cp t.counts.length cc) (.slice fp t.fixed.length fc) (.slice bp t.below.length bc) (pcsT t L) :=
  λ ho W h=>zbh ho W _ _ _ _ _ (hg.below h) (hk.below h) (hc.below h) hcf (hf.below h) (hb.below h)
 have hCV:∀ W bb bv L,OkT t→l.length≤16→Below w.heap.size w W→LOk t.ground L→BdAt W bb bv t L (pcsT t L) (belT t L)→bv.b=.slice bp t.below.length bc→Calls Tryz.prog 59 #[.pointer (some ⟨bb,0,none⟩),.slice vp l.length vq] W (CovPost t t.below L l W) :=
  λ W bb bv L ho h16 h hl hbd hbe=>zcc ho hl W bb bv hbd (htb.below h) l h16 _ (hv.below h) (by rw[hbe];exact hb.below h)
 have HAR:Hid (∀ W,Below w.heap.size w W→HasQ W (.slice gp t.ground.length gc) t.ground∧HasQQ W (.slice kp t.kinds.length kc) t.kinds∧RI.Has W (.slice cp t.counts.length cc) t.counts∧RL.Has W (.slice fp t.fixed.length fc) t.fixed∧RE.Has W (.slice bp t.below.length bc) t.below):=yK λ W h=>⟨hg.below h,hk.below h,hc.below h,hf.below h,hb.below h⟩;have HCK:=yK hCK;clear hCK;have HLY:=yK hLY;clear hLY;have HCV:=yK hCV;clear hCV hg hk hc hf htb hcf hv hb;go_enter func54,ntmps54;go_wp2_with fail;obtain⟨hT,hZ,hB⟩:=qU w (.cells #[.slice gp t.ground.length gc,.slice kp t.kinds.length kc,.slice cp t.counts.length cc,.slice fp t.fixed.length fc,.slice bp t.below.length bc] 34) (.cells (hsVals zeroS).toArray 108);have hs2:((w.alloc (.cells #[.slice gp t.ground.length gc,.slice kp t.kinds.length kc,.slice cp t.counts.length cc,.slice fp t.fixed.length fc,.slice bp t.below.length bc] 34)).alloc (.cells (hsVals zeroS).toArray 108)).heap.size=w.heap.size+2:=by rw[yp,yp]
 revert hT hZ hB hs2;change _→_→_→_→Calls _ _ _ ((w.alloc (.cells #[.slice gp t.ground.length gc,.slice kp t.kinds.length kc,.slice cp t.counts.length cc,.slice fp t.fixed.length fc,.slice bp t.below.length bc] 34)).alloc (.cells (hsVals zeroS).toArray 108)) _;generalize (w.alloc (.cells #[.slice gp t.ground.length gc,.slice kp t.kinds.length kc,.slice cp t.counts.length cc,.slice fp t.fixed.length fc,.slice bp t.below.length bc] 34)).alloc (.cells (hsVals zeroS).toArray 108)=w1;intro hT hZ hB hs2;have hzl:=(ya.1 hZ).1;have HB:=yK hB;clear hB;have htl:=(ya.1 hT).1;refine (HCK.out w1 HB.out).mono ?_;rintro e w2 ⟨code,rfl,h0,h2,hB2⟩;have hT2:=(hB2.block _ htl).trans hT;have hZ2:=(hB2.block _ hzl).trans hZ;have hzl2:=(ya.1 hZ2).1;have hsz2:w.heap.size+2≤w2.heap.size:=by rw[← hs2];exact hB2.size
 have HSZ:=yK hsz2;clear hsz2 hs2;have HB2:=yK (HB.out.trans (hB2.mono HB.out.size));clear hB2 HB htl;have hss0:(Tryz.prog.info? 108).map (·.size)=some (hsVals zeroS).toArray.size:=sizeS;have hone0:(hsVals zeroS).toArray.all (·.oneCell')=true:=by simp[hsVals,zeroS,Value.oneCell']
 rcases h2 with rfl|rfl
 case inr =>
  have HNO:Hid (¬ OkT t):=yK λ h=>absurd (h0.2 h) (by decide);clear h0 hT2 hT;go_wp2_with (refine zab rfl 108 _ _ rfl (w.heap.size+1) rfl 108 (hsVals zeroS).toArray rfl hZ2 hss0 hone0 ?_);refine Yc (qa4 rfl underlying108 rfl _ _ (w.heap.size+1) (hsVals zeroS).toArray (0,0) _ _ hZ2 hss0 rfl rfl rfl) rfl ?_;exact⟨HB2.out,.inl ⟨2,rfl,.inl ⟨HNO.out,rfl⟩⟩⟩
 case inl =>
  have HOK:Hid (OkT t):=yK (h0.1 rfl);have hcell:∀ j,w2.cell? ⟨w.heap.size,j,none⟩=(#[.slice gp t.ground.length gc,.slice kp t.kinds.length kc,.slice cp t.counts.length cc,.slice fp t.fixed.length fc,.slice bp t.below.length bc]:Array Value)[j]?:=λ j=>by simp only[World.cell?,hT2];simp
  have c0:=hcell 0;have c1:=hcell 1;have c2:=hcell 2;have c3:=hcell 3;have c4:=hcell 4;simp at c0 c1 c2 c3 c4;clear hcell hT HCK hT2 h0 hZ hzl;have HL:=yK (HLY.out HOK.out w2 HB2.out);clear HLY;by_cases h16:l.length≤16
  case neg =>
   have hgt:decide ((16:Int)<(l.length:Int))=true:=yw (by omega);clear c0 c1 c2 c3 c4;have H16:=yK h16;clear h16;go_wp2_with (refine zab rfl 108 _ _ rfl (w.heap.size+1) rfl 108 (hsVals zeroS).toArray rfl hZ2 hss0 hone0 ?_);refine Yc (qa4 rfl underlying108 rfl _ _ (w.heap.size+1) (hsVals zeroS).toArray (0,0) _ _ hZ2 hss0 rfl rfl rfl) rfl ?_;exact⟨HB2.out,.inl ⟨5,rfl,.inr (.inl ⟨HOK.out,by have:=H16.out;omega,rfl⟩)⟩⟩
  have hgt:decide ((16:Int)<(l.length:Int))=false:=yv (by omega);have H16:=yK h16;clear h16;go_wp2_with fail;refine HL.out.mono ?_;rintro e w3 ⟨bb,bv,L,rfl,hbb,hbd,hlok,hB3,hbe⟩;have hZ3:=(hB3.block _ hzl2).trans hZ2;have hzl3:=(ya.1 hZ3).1;have HB3:=yK (HB2.out.trans (hB3.mono HB2.out.size));have hs3:w.heap.size+2≤w3.heap.size:=yJ HSZ.out hB3.size;clear hB3 HL;have HC2:=yK (HCV.out w3 bb bv L HOK.out H16.out HB3.out hlok hbd hbe.b);have HBD:=yK (And.intro hbd hbe);have HBB:=yK (And.intro hbb hs3);clear hbb hs3;have HLO:=yK hlok;clear hlok;clear HCV hbd c0 c1 c2 c3 c4 hbe;go_wp2_with fail;refine HC2.out.mono ?_;rintro e w4 ⟨n,i,cS,rfl,hcv,hB4,hsz,hone,hyes⟩;have HCO:=yK hcv;clear hcv;have HYES:=yK hyes;clear hyes;have hZ4:=(hB4.block _ hzl3).trans hZ3;have hzl4:=(ya.1 hZ4).1;have HB34:=yK hB4;have HB4:=yK (HB3.out.trans (hB4.mono HB3.out.size));clear hB4 HC2 hzl2 hzl3 hZ2 hZ3;have hss:(Tryz.prog.info? 108).map (·.size)=some cS.size:=by rw[← hsz];exact sizeS
  obtain⟨cF,hcF⟩:∃ cF:Array Value,#[.int .i64 n,.int .i64 i]=cF:=⟨_,rfl⟩;have hszF:(Tryz.prog.info? 135).map (·.size)=some cF.size:=by rw[← hcF];kernel_rfl
  have honF:cF.all (·.oneCell')=true:=by rw[← hcF];simp[Value.oneCell']
  have hsF:(#[.int .i64 0,.int .i64 0]:Array Value).size=cF.size:=by rw[← hcF];rfl
  have heF:∀ W,(Op.equalIn 10000 135 (.agg cF) (.agg #[.int .i64 0,.int .i64 0])).run Tryz.prog W=.ok (decide ((n,i)=(0,0))) W:=λ W=>by rw[← hcF];exact zfp n i W
  rw[hcF];clear hcF;have hF1:=(qU w4 (.cells #[.int .i64 0,.int .i64 0] 135) (.cells (hsVals zeroS).toArray 108)).1;have hS1:=(setRow_other ((w4.alloc (.cells #[.int .i64 0,.int .i64 0] 135)).alloc (.cells (hsVals zeroS).toArray 108)) w4.heap.size (w4.heap.size+1) cF (by omega)).trans (qU w4 (.cells #[.int .i64 0,.int .i64 0] 135) (.cells (hsVals zeroS).toArray 108)).2.1;go_upto_region 8 with (first
   | (refine wpList_store_row rfl 135 _ _ rfl w4.heap.size rfl 135 _ cF rfl hF1 hszF hsF honF ?_)
   | (refine wpList_store_row rfl 108 _ _ rfl (w4.heap.size+1) rfl 108 _ cS rfl hS1 hss hsz hone ?_))
  simp only[Act.put];have hF2:((((w4.alloc (.cells #[.int .i64 0,.int .i64 0] 135)).alloc (.cells (hsVals zeroS).toArray 108)).setRow w4.heap.size cF).setRow (w4.heap.size+1) cS).heap[w4.heap.size]?=some (.cells cF 135 (0,0)):=(setRow_other _ _ _ _ (by omega)).trans (setRow_heap _ _ _ _ _ _ hF1);have hS2:((((w4.alloc (.cells #[.int .i64 0,.int .i64 0] 135)).alloc (.cells (hsVals zeroS).toArray 108)).setRow w4.heap.size cF).setRow (w4.heap.size+1) cS).heap[w4.heap.size+1]?=some (.cells cS 108 (0,0)):=setRow_heap _ _ _ _ _ _ hS1;have hb5:Below w4.heap.size w4 ((((w4.alloc (.cells #[.int .i64 0,.int .i64 0] 135)).alloc (.cells (hsVals zeroS).toArray 108)).setRow w4.heap.size cF).setRow (w4.heap.size+1) cS):=zg (zg (qU w4 _ _).2.2 (ye _) _) (by omega) _;have hZ5:=(hb5.block _ hzl4).trans hZ4;have HB45:=yK hb5;clear hb5 hF1 hS1 hZ4;revert hF2 hS2 HB45 hZ5;change _→_→_→_→Code.wp _ _ _ _ ((((w4.alloc (.cells #[.int .i64 0,.int .i64 0] 135)).alloc (.cells (hsVals zeroS).toArray 108)).setRow w4.heap.size cF).setRow (w4.heap.size+1) cS);generalize ((((w4.alloc (.cells #[.int .i64 0,.int .i64 0] 135)).alloc (.cells (hsVals zeroS).toArray 108)).setRow w4.heap.size cF).setRow (w4.heap.size+1) cS)=w5;intro hF hS hZ5 HB45;have HBF:=yK (HB4.out.trans (HB45.out.mono HB4.out.size));by_cases hni:(n,i)=(0,0)
  case neg =>
   have hd:decide ((n,i)=(0,0))=false:=yv hni;rw[hd]at heF;have HNI:Hid (coversT t l≠(0,0)):=yK (by rw[← show withB t t.below=t from rfl,← HCO.out];exact hni);clear hni hd;go_wp2_with (first
    | (refine Yb rfl 135 _ rfl w4.heap.size rfl 135 cF (0,0) _ hF underlying135 rfl hszF ?_)
    | (refine qb3 rfl 135 _ _ _ rfl rfl rfl (by kernel_rfl) (heF _) ?_)
    | (refine zab rfl 108 _ _ rfl (w.heap.size+1) rfl 108 (hsVals zeroS).toArray rfl hZ5 hss0 hone0 ?_))
   refine Yc (qa4 rfl underlying108 rfl _ _ (w.heap.size+1) (hsVals zeroS).toArray (0,0) _ _ hZ5 hss0 rfl rfl rfl) rfl ?_;exact⟨HBF.out,.inl ⟨9,rfl,.inr (.inr ⟨HOK.out,H16.out,HNI.out,rfl⟩)⟩⟩
  have hd:decide ((n,i)=(0,0))=true:=yw hni;rw[hd]at heF;obtain⟨rfl,rfl⟩:=Prod.mk.inj hni;obtain⟨S,hcs,hst,hown⟩:=HYES.out rfl;have HC0:Hid (coversT t l=(0,0)):=yK HCO.out.symm;have HST:=yK hst;clear hst;have HOW:=yK (qf (qN hown HBB.out.2) HB45.out);clear hown;clear hni hd HYES HCO;subst hcs;go_upto_region 10 with (first
   | (refine Yb rfl 135 _ rfl w4.heap.size rfl 135 cF (0,0) _ hF underlying135 rfl hszF ?_)
   | (refine qb3 rfl 135 _ _ _ rfl rfl rfl (by kernel_rfl) (heF _) ?_))
  have hld:∀ d:SubW w5,(Instr.loadAt 108 (.pointer (some ⟨w4.heap.size+1,0,none⟩))).run Tryz.prog d.1=.ok (.agg (hsVals S).toArray) d.1:=λ d=>by
   have:=run_loadVar_row (P:=Tryz.prog) d.1 (w4.heap.size+1) 108 108 (hsVals S).toArray (0,0) _ (d.block hS) underlying108 rfl hss;simp only[Instr.loadAt,Instr.sureAddr,yG,yH,yz,this]
  simp only[Act.put,yr,yF,yE,Bool.not_true];refine qh 3 (by kernel_rfl) (by kernel_rfl) ?_;simp only[yh,yj,yi,yl]
  repeat (first|((go_big_quiet_want;refine qC 108 _ rfl rfl (by rintro w ⟨d,rfl⟩;exact hld d) ?_;simp only[Act.put,yr,yF,yE];go_big_quiet_on))|go_big_quiet_step (fail))
  refine wpQuiet_nil ?_;intro dq;have hZ6:=dq.block hZ5;have hB6:=HBF.out.trans (dq.2.mono HBF.out.size);have HOW6:=yK (qf HOW.out dq.2);have HB36:=yK ((HB34.out.trans (HB45.out.mono HB34.out.size)).trans (dq.2.mono (yJ HB34.out.size HB45.out.size)));clear hld hF hS HOW;revert hZ6 hB6 HOW6 HB36;generalize dq.1=w6;intro hZ6 hB6 HOW6 HB36;go_wp2_with (refine wpList_store_row rfl 108 _ _ rfl (w.heap.size+1) rfl 108 _ (hsVals S).toArray rfl hZ6 hss rfl hone ?_);refine Yc (qa4 rfl underlying108 rfl _ _ (w.heap.size+1) (hsVals S).toArray (0,0) _ _ (setRow_heap _ _ _ _ _ _ hZ6) hss rfl rfl rfl) rfl ?_;have hBn:Below w.heap.size w (w6.setRow (w.heap.size+1) (hsVals S).toArray):=zg hB6 (YF _) _;obtain⟨a1,a2,a3,a4,a5⟩:=HAR.out _ hBn;have hbv:BvOwn w6 w2.heap.size bv (.slice gp t.ground.length gc) (.slice kp t.kinds.length kc) (.slice cp t.counts.length cc) (.slice fp t.fixed.length fc) (.slice bp t.below.length bc) (pcsT t L):=by
   obtain⟨b1,b2,b3,b4,b5,b6,b7,b8⟩:=HBD.out.2;exact⟨b1,b2,b3,b4,b5,b6,b7,b8.below HB36.out⟩
  have hoth:∀ k,k≠w.heap.size+1→(w6.setRow (w.heap.size+1) (hsVals S).toArray).heap[k]?=w6.heap[k]?:=λ k hk=>setRow_other _ _ _ _ hk;refine⟨hBn,.inr ⟨bb,bv,L,S,rfl,HOK.out,H16.out,HC0.out,(HBD.out.1.keep HB36.out).row hbv HBB.out.1 (by have:=HSZ.out;omega) hoth a1 a2 a3 a4 ⟨_,a5⟩,HLO.out,HST.out,zi HOW6.out (λ k hk=>hoth k (by have:=(zf HOW6.out hk).1;omega)),HBD.out.2.b⟩⟩
end Go.Proofs.YtiinlplgloaanaaGreatDoor
