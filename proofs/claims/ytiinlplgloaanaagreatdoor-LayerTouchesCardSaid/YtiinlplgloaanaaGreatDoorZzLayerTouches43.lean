/- Chapter 7 in the heap: tiled, of any task and any bricks: the board and the state of a tiling, or the error. -/
import Derived.Test.YtiinlplgloaanaaGreatDoorZzLayerTouches42
set_option linter.all false
set_option maxRecDepth 100000
set_option maxHeartbeats 8000000
namespace Go.Proofs.YtiinlplgloaanaaGreatDoor
open Go.Proofs.Tryz Go.RowKit
attribute [local go_sem] Oper.semAt_some
theorem qz (ax ay ak bx b_y bk:Int) (w:World) :
  Calls Tryz.prog 45 #[.agg #[.int .i64 ax,.int .i64 ay,.int .i64 ak],.agg #[.int .i64 bx,.int .i64 b_y,.int .i64 bk]] w λ e w' =>
   e=.returned (.int .i64 (orL [cmpI ay b_y,cmpI ax bx,cmpI ak bk]))/\Grew w w':=by
 go_enter func45,ntmps45;go_wp2;go_region_held3 (λ w'=>w'.cell? ⟨w.heap.size,0,none⟩=some (.int .i64 ax)/\w'.cell? ⟨w.heap.size,1,none⟩=some (.int .i64 ay)/\w'.cell? ⟨w.heap.size,2,none⟩=some (.int .i64 ak) /\
   w'.cell? ⟨w.heap.size+1,0,none⟩=some (.int .i64 bx)/\w'.cell? ⟨w.heap.size+1,1,none⟩=some (.int .i64 b_y)/\w'.cell? ⟨w.heap.size+1,2,none⟩=some (.int .i64 bk)) (first|go_keep|simp)
  (first
   | (go_at_call 93;refine(co _ _ _).mono ?_;rintro e w' ⟨rfl,rfl⟩)
   | (go_at_call 99;refine Calls.mono (dl (w.heap.size+1+1) 3 (cmpI ay b_y) (cmpI ax bx) (cmpI ak bk) _ ?_ ?_ ?_) ?_;go_simp;go_simp;go_simp;rintro e w' ⟨rfl,rfl⟩))
 go_wp2;go_ret;exact⟨rfl,((((Grew.refl w).alloc _).alloc _).alloc _).drew⟩
def AdjE (es:List E):Prop:=∀ (i:Nat) (a b:E),es[i]?=some a->es[i+1]?=some b->¬ ltE b a
def NeqE (es:List E):Prop:=∀ (i:Nat) (a b:E),es[i]?=some a->es[i+1]?=some b->b≠a
theorem ou {W:World} {p:Option Addr} {n c:Nat} {es:List E} (h:RE.Has W (.slice p n c) es) {j:Nat} {e:E} (he:es[j]?=some e):∃ a,p=some a/\a.block<W.heap.size/\∀ d:SubW W,d.1.cell? (a.add (j*3))=some (.int .i64 e.x)/\d.1.cell? { block:=(a.add (j*3)).block,off:=(a.add (j*3)).off+1 }=some (.int .i64 e.y)/\d.1.cell? { block:=(a.add (j*3)).block,off:=(a.add (j*3)).off+2 }=some (.int .i64 e.k):=by
 obtain⟨a,rfl,A,_⟩:=fR h he;refine⟨a,rfl,A,λ d=>?_⟩;obtain⟨G,F,_,B,C,D⟩:=fR (h.below d.2) he
 cases F
 exact⟨B,C,D⟩
theorem mR (es:List E) (v:Value) (w:World) (h:RE.Has w v es) (hl:es.length<=1000000) :
  Calls Tryz.prog 44 #[v,.func (.func 45) #[] #[]] w λ e w'=>∃ r:Bool,e=.returned (.bool r)/\(r=true↔AdjE es)/\Bw w w':=by
 obtain⟨p,c,rfl⟩:=h.slice;have f:=yK h;clear h;go_enter func44,ntmps44;go_wp2_with fail;go_loopw [5] (λ z wr=>∃ n:Nat,n<=es.length/\z=.int .i64 ((n:Int)-1)/\Hid (Bw w wr/\∀ (i:Nat) (a b:E),n<=i+1->es[i]?=some a->es[i+1]?=some b->¬ ltE b a)) (λ z _=>(intOf z).toNat)
 case atStart=>exact⟨es.length,ye _,rfl,yK ⟨yf _ _,λ i a b hi _ h2=>by have:=(yc.1 h2).1;omega⟩⟩
 case round =>
  obtain⟨n,t,rfl,C⟩:=hrel;by_cases h2:2<=n
  ·obtain⟨m,rfl⟩:∃ m,n=m+2:=⟨n-2,by omega⟩;rw[show (((m+2:Nat):Int)-1)=(m:Int)+1 by omega];obtain⟨b,T⟩:∃ b,es[m+1]?=some b:=⟨_,yb (by omega)⟩;obtain⟨a,K⟩:∃ a,es[m]?=some a:=⟨_,yb (by omega)⟩;obtain⟨ad,rfl,_,A⟩:=ou (f.o.below C.o.1) T;obtain⟨l,j,_,B⟩:=ou (f.o.below C.o.1) K
   cases j
   have X:=yK K;clear K;have I:=yK T;clear T;have G:Hid (∀ d:SubW wr,Calls Tryz.prog 45 #[.agg #[.int .i64 b.x,.int .i64 b.y,.int .i64 b.k],.agg #[.int .i64 a.x,.int .i64 a.y,.int .i64 a.k]] d.1 λ e w'=>e=.returned (.int .i64 (cmpE b a))/\∃ d':SubW wr,w'=d'.1):=yK λ d=>by
    refine(qz b.x b.y b.k a.x a.y a.k d.1).mono ?_;rintro e w' ⟨rfl,g⟩;exact⟨rfl,⟨w',d.2.tm g.below⟩,rfl⟩
   have D:Hid (cmpE b a<0↔ltE b a):=yK aJ;have S:=λ d=>(A d).1;have N:=λ d=>(A d).2.1;have R:=λ d=>(A d).2.2;have U:=λ d=>(B d).1;have M:=λ d=>(B d).2.1;have P:=λ d=>(B d).2.2;clear A B;obtain⟨V,H,Y⟩:=b;obtain⟨W,F,Z⟩:=a;simp only at S N R U M P;generalize L:cmpE ⟨V,H,Y⟩ ⟨W,F,Z⟩=cm at G D;clear L;have e1:decide ((0:Int)<(m:Int)+1)=true:=yw (by omega);have i1:(0:Int)<=(m:Int)+1:=(by omega);have i2:(m:Int)+1<(es.length:Int):=(by omega);have s:(m:Int)<(es.length:Int):=(by omega);have q:IntKind.i64.wrap (m:Int)=m:=(by rw[IntKind.wrap_i64];omega);have t1:((m:Int)+1).toNat=m+1:=(by omega);by_cases hlt:ltE ⟨V,H,Y⟩ ⟨W,F,Z⟩
   ·have hd:decide (cm<0)=true:=yw (D.o.2 hlt);go_upto_region 4 with fail;refine zg 12 (by kernel_rfl) (by kernel_rfl) ?_;simp only[yh,yj,yi,yl]
    repeat(go_big_quiet_step ((exact G.o _)))
    refine wpQuiet_nil ?_;intro dq;have J:=C.o.1.tm dq.2;clear S N R U M P G;go_wp2_with fail;go_ret;exact⟨false,rfl,⟨λ h=>(by cases h),λ h=>kV hlt (h m _ _ X.o I.o)⟩,J⟩
   have hd:decide (cm<0)=false:=yv λ hc=>hlt (D.o.1 hc);go_upto_region 4 with fail;refine zg 12 (by kernel_rfl) (by kernel_rfl) ?_;simp only[yh,yj,yi,yl]
   repeat(go_big_quiet_step ((exact G.o _)))
   refine wpQuiet_nil ?_;intro dq;have J:=C.o.1.tm dq.2;clear S N R U M P G;have O:Hid (Bw w dq.1/\∀ (i:Nat) (a b:E),m+1<=i+1->es[i]?=some a->es[i+1]?=some b->¬ ltE b a):=yK ⟨J,λ i a b hi h1 h3=>by
    rcases (by omega:i=m\/m+2<=i+1)with rfl|h
    ·rw[X.o]at h1;rw[I.o]at h3;cases h1;cases h3;exact hlt
    exact C.o.2 i a b h h1 h3⟩
   clear J C;go_wp2_with fail
   go_roundw
   case rel=>exact⟨m+1,by omega,by go_num,O⟩
   case measure=>first|(simp[intOf];done)|(simp[intOf];omega)
  have hd:decide ((0:Int)<(n:Int)-1)=false:=yv (by omega);go_wp2_with fail;go_ret;exact⟨true,rfl,⟨λ _ i a b h1 h3=>C.o.2 i a b (by omega) h1 h3,λ _=>rfl⟩,C.o.1⟩
theorem bj {α:Type} {R:REnc α} (hn:0<R.n) {W:World} {a:Addr} {l:List α} (h:R.At W a l):∀ (j:Nat) (u:Value),(R.cells l)[j]?=some u->W.cell? (a.add j)=some u:=by
 intro j u hu;have B:j<l.length*R.n:=by rw[<- R.cells_length];exact(yc.1 hu).1
 have hd:j / R.n<l.length:=by rw[Nat.div_lt_iff_lt_mul hn];exact B
 have e:j / R.n*R.n+j % R.n=j:=by rw[Nat.mul_comm];exact Nat.div_add_mod j R.n
 have A:=R.cells_get (yb hd) (j % R.n) (Nat.mod_lt _ hn);rw[e,hu]at A;have:=h.at_ (j / R.n) _ (yb hd) (j % R.n) u A.symm;rwa [e]at this
theorem rT (es:List E) (v:Value) (w:World) (h:RE.Has w v es) (hl:es.length<=1000000) :
  Calls Tryz.prog 47 #[v] w λ e w'=>∃ u,e=.returned u/\OwnEd w' w.heap.size u es/\Bw w w':=by
 rcases h with⟨rfl,rfl⟩|⟨a,cap,rfl,hlc,hcm,hat⟩
 case inl =>
  go_enter func47,ntmps47;have N:(binOp .eql 32 (.slice none 0 0) (.slice none 0 0)).run Tryz.prog w=.ok (.bool true) w:=by kernel_rfl
  go_wp2_with fail;go_ret;exact⟨_,rfl,kz _ w.heap.size 61 3,yf _ _⟩
 case inr =>
  go_enter func47,ntmps47;have N:(binOp .eql 32 (.slice (some a) es.length cap) (.slice none 0 0)).run Tryz.prog w=.ok (.bool false) w:=by kernel_rfl
  have C:Bw w (w.alloc (.cells #[] 61)):=(yf _ w).alloc (ye _) _;have B:(w.alloc (.cells #[] 61)).ownsRow w.heap.size 61 3 (.slice (some ⟨w.heap.size,0,none⟩) 0 0) 0 []:=⟨rfl,.inr ⟨w.heap.size,0,#[],rfl,ye _,yd w _,ye _,by decide,rfl,rfl⟩⟩;have A:∀ (j:Nat) (u:Value),(eCells es)[j]?=some u->(w.alloc (.cells #[] 61)).cell? (a.add j)=some u:=bj (by decide) (hat.below C);have D:∀ u∈eCells es,u.oneCell'=true:=λ u hu=>by
   obtain⟨q,_,M⟩:=kX.1 hu;exact fE q u M
  have K:Hid (0+es.length<=maxLen):=yK (by simp only[maxLen];omega);have H:Hid ((0+es.length)*24<=140737488355328):=yK (by omega);obtain⟨L,G,I,F,J⟩:=info_parts infoE;go_wp2_with (first
   | (at_builtin;refine wpList_append_own _ rfl _ _ 32 rfl w.heap.size 61 L _ 3 24 underlying32 G I F J rfl (by decide) (.slice (some ⟨w.heap.size,0,none⟩) 0 0) 0 [] rfl B a es.length cap (eCells es) rfl (Av es) A D K.o H.o (by rw[yp];omega) ?_;intro R w2 hown' hgrow _;obtain⟨O,P,rfl⟩:=zf hown'))
  go_ret;refine⟨_,rfl,?_,C.grown hgrow (by rw[yp];omega) (λ k hk=>(B.lt k hk).1)⟩;simpa using hown'
theorem jE (a b:E) (W:World):(Op.equalIn 10000 61 (.agg #[.int .i64 a.x,.int .i64 a.y,.int .i64 a.k]) (.agg #[.int .i64 b.x,.int .i64 b.y,.int .i64 b.k])).run Tryz.prog W=.ok (decide (a=b)) W:=by
 rw[run_equalIn_agg W 9999 61 _ _ (by kernel_rfl) (by kernel_rfl)];obtain⟨C,D,G⟩:=a;obtain⟨B,A,F⟩:=b;simp only[E.mk.injEq];by_cases h1:C=B <;> by_cases h2:D=A <;> by_cases h3:G=F <;> simp[go_sem,h1,h2,h3]
def IntRow (W:World) (base g n cap:Nat):Prop:=∃ xs:List Value,W.ownsRow base 61 3 (.slice (some ⟨g,0,none⟩) n cap) n xs/\∀ u∈xs,∃ z:Int,u=.int .i64 z
theorem IntRow.of {W:World} {base g cap:Nat} {es:List E} (h:OwnEd W base (.slice (some ⟨g,0,none⟩) es.length cap) es):IntRow W base g es.length cap :=
 ⟨eCells es,h,λ u hu=>by
  obtain⟨e,_,he⟩:=kX.1 hu;simp only[eVals,Yd,ki,or_false]at he;rcases he with rfl|rfl|rfl <;> exact⟨_,rfl⟩⟩
theorem IntRow.cell {W:World} {base g n cap:Nat} (h:IntRow W base g n cap) {j:Nat} (hj:j<n*3):∃ z:Int,W.cell? ⟨g,j,none⟩=some (.int .i64 z):=by
 obtain⟨F,A,D⟩:=h;have B:j<F.length:=by rw[A.1];exact hj
 obtain⟨z,C⟩:=D _ (kH B);have:=World.ownsRow.cells A (g:=g) rfl j _ (yb B);rw[qW,C]at this;exact⟨z,this⟩
theorem IntRow.frozen {W:World} {base g n cap:Nat} (h:IntRow W base g n cap) (j:Nat):W.frozen? ⟨g,j,none⟩=false:=by
 obtain⟨xs,h1,_⟩:=h;exact World.ownsRow.frozenAt h1 j
theorem IntRow.store {W:World} {base g n cap:Nat} (h:IntRow W base g n cap) (j:Nat) (z:Int):IntRow (W.setCell ⟨g,j,none⟩ (.int .i64 z)) base g n cap:=by
 obtain⟨C,A,B⟩:=h;refine⟨_,(World.ownsRow.stored A j (.int .i64 z)).1,λ u hu=>?_⟩;rcases List.mem_or_eq_of_mem_set hu with hu|rfl
 ·exact B u hu
 exact⟨z,rfl⟩
theorem IntRow.below {W W':World} {base g n cap:Nat} (h:IntRow W base g n cap) (e:Bw W W'):IntRow W' base g n cap:=by
 obtain⟨xs,h1,h2⟩:=h;exact⟨xs,qf h1 e,h2⟩
theorem IntRow.ge {W:World} {base g n cap:Nat} (h:IntRow W base g n cap):base<=g/\n<=cap:=by
 obtain⟨C,A,_⟩:=h;refine⟨(qg A rfl).1,?_⟩;rcases A.2 with⟨B,_⟩|⟨gg,cap',cur,hvv,_,_,h3,_⟩
 ·cases B
 simp only[yC]at hvv;obtain⟨_,_,rfl⟩:=hvv;exact h3
theorem oJ {w:World} {base:Nat} {g:Nat} (hg:base<=g):∀ (us:List Value) (j:Nat) (W:World),Below base w W->Below base w (W.setCells g j us)
 | [],_,_,h=>h
 | u :: us,j,W,h=>oJ hg us (j+1) _ (h.setCell (p:=⟨g,j,none⟩) hg u)
theorem Ce {w W:World} {B A:Nat} (h:Below B w W) (hA:B<=A) (a b c:Nat) (x y z:Value):Below B w (((W.setCell ⟨A,a,none⟩ x).setCell ⟨A,b,none⟩ y).setCell ⟨A,c,none⟩ z) :=
 ((h.setCell (p:=⟨A,a,none⟩) hA x).setCell (p:=⟨A,b,none⟩) hA y).setCell (p:=⟨A,c,none⟩) hA z
theorem CR {W:World} {base g n cap:Nat} (h:IntRow W base g n cap) (k m c:Nat) (hk:k+m<=n) (hm:0<m) :
  ∃ W',(∀ ty,(Builtin.clear_ #[32] ty #[.slice (some ⟨g,k*3,none⟩) m c]).run Tryz.prog W=.ok (.tuple #[]) W')/\∀ w,Below base w W->Below base w W':=by
 have A:∀ w,(zeroValue 61).run Tryz.prog w=.ok (.agg #[.int .i64 0,.int .i64 0,.int .i64 0]) w:=λ w=>by kernel_rfl
 have C:(Builtin.zeroCells (Value.agg #[.int .i64 0,.int .i64 0,.int .i64 0]).cells m).toList.length=m*3:=by simp[Builtin.zeroCells,Value.cells]
 have B:∀ v∈(Builtin.zeroCells (Value.agg #[.int .i64 0,.int .i64 0,.int .i64 0]).cells m).toList,v=.int .i64 0:=λ v A=>by
  simp only[Builtin.zeroCells,Value.cells,Array.toList_map,yP]at A;obtain⟨i,_,rfl⟩:=A;have G:i % 3<3:=Nat.mod_lt _ (by decide);show (#[Value.int .i64 0,.int .i64 0,.int .i64 0]:Array Value)[i % 3]! =_;rcases (by omega:i % 3=0\/i % 3=1\/i % 3=2)with h|h|h <;> rw[h] <;> rfl
 have D:=run_storeCells_cells (P:=Tryz.prog) g (k*3) (Builtin.zeroCells (Value.agg #[.int .i64 0,.int .i64 0,.int .i64 0]).cells m).toList 0 W
  (λ j hj=>by
   rw[C]at hj;obtain⟨z,F⟩:=h.cell (j:=k*3+0+j) (by omega);rw[F];rfl) (λ j _=>h.frozen _) (λ v A=>by rw[B v A];rfl)
 obtain⟨q,rfl⟩:∃ q,m=q+1:=⟨m-1,by omega⟩;refine⟨W.setCells g (k*3+0) (Builtin.zeroCells (Value.agg #[.int .i64 0,.int .i64 0,.int .i64 0]).cells (q+1)).toList,λ ty=>?_,λ w hb=>oJ h.ge.1 _ _ _ hb⟩;simp[Builtin.clear_,run_underlying underlying32,A,D]
def CompPost (es:List E) (base:Nat) (w:World) (e:Ending) (w':World):Prop:=∃ (p:Option Addr) (n c:Nat),e=.returned (.slice p n c)/\(n=es.length↔NeqE es)/\n<=es.length/\Below base w w'
theorem tZ (es:List E) (v:Value) (base:Nat) (w:World) (h:OwnEd w base v es) (hbw:base<=w.heap.size) (hl:es.length<=1000000) :
  Calls Tryz.prog 46 #[v] w (CompPost es base w):=by
 obtain⟨p,c,rfl⟩:=zf h;by_cases h2:es.length<2
 case pos =>
  have Z:decide ((es.length:Int)<2)=true:=yw (by omega);go_enter func46,ntmps46;go_wp2_with fail;go_ret;exact⟨_,_,_,rfl,⟨λ _ i a b h1 h3=>by have:=(yc.1 h3).1;omega,λ _=>rfl⟩,ye _,yf _ _⟩
 case neg =>
  have Z:decide ((es.length:Int)<2)=false:=yv (by omega);obtain⟨g,rfl⟩:∃ g,p=some ⟨g,0,none⟩:=by
   rcases h.2 with⟨_,h0⟩|⟨gg,cap,cur,hvv,_⟩
   ·omega
   simp only[yC]at hvv;exact⟨gg,hvv.1⟩
  have HO:=yK h;clear h;have A4:=(IntRow.of HO.o).ge.2;go_enter func46,ntmps46;go_wp2_with fail;clear Z;go_loopw [3] (λ z wr=>∃ k:Nat,1<=k/\k<=es.length/\z=.int .i64 k/\Hid (Bw w wr/\∀ (i:Nat) (a b:E),i+1<k->es[i]?=some a->es[i+1]?=some b->b≠a)) (λ z _=>es.length-(intOf z).toNat)
  case atStart=>exact⟨1,by omega,by omega,rfl,yK ⟨yf _ _,λ i a b hi=>by omega⟩⟩
  obtain⟨k,B4,hk,rfl,G⟩:=hrel;by_cases hlt:k<es.length
  case neg =>
   obtain rfl:k=es.length:=(by omega);go_wp2_with fail;go_ret;exact⟨_,_,_,rfl,⟨λ _ i a b h1 h3=>G.o.2 i a b (by have:=(yc.1 h3).1;omega) h1 h3,λ _=>rfl⟩,ye _,G.o.1.mono hbw⟩
  obtain⟨m,rfl⟩:∃ m,k=m+1:=⟨k-1,by omega⟩;obtain⟨b,hb⟩:∃ b,es[m+1]?=some b:=⟨_,yb hlt⟩;obtain⟨a,ha⟩:∃ a,es[m]?=some a:=⟨_,yb (by omega)⟩;have W:=qf HO.o G.o.1;obtain⟨b0,b1,b2⟩:=eE hb;obtain⟨a0,a1,a2⟩:=eE ha;have R:=World.ownsRow.cells W (g:=g) rfl _ _ b0;have P:=World.ownsRow.cells W (g:=g) rfl _ _ b1;have O:=World.ownsRow.cells W (g:=g) rfl _ _ b2;have S:=World.ownsRow.cells W (g:=g) rfl _ _ a0;have M:=World.ownsRow.cells W (g:=g) rfl _ _ a1;have L:=World.ownsRow.cells W (g:=g) rfl _ _ a2;rw[qW]at R P O S M L;have A:=jE b a;have d:IntKind.i64.wrap (((m+1:Nat):Int)-1)=m:=by rw[IntKind.wrap_i64];omega
  have i1:(m:Int)<(es.length:Int):=by omega
  have i2:(0:Int)<=(m:Int):=by omega
  have F:=yK (YP ha hb);clear W b0 b1 b2 a0 a1 a2 ha hb;obtain⟨bx,U,bk⟩:=b;obtain⟨ax,V,ak⟩:=a;simp only at R P O S M L A;by_cases hba:(⟨bx,U,bk⟩:E)=⟨ax,V,ak⟩
  case neg =>
   have C:decide ((⟨bx,U,bk⟩:E)=⟨ax,V,ak⟩)=false:=yv hba;simp only[C]at A;go_upto_region 6 with fail;refine zu 10 (by kernel_rfl) (by kernel_rfl) ?_;simp only[yh,yj,yi,yl]
   repeat(go_big_quiet_step (fail))
   refine wpQuiet_nil ?_;intro nq;have B:Hid (Bw w (wr.drewN nq)/\∀ (i:Nat) (a b:E),i+1<m+1+1->es[i]?=some a->es[i+1]?=some b->b≠a):=yK ⟨G.o.1.trans ((below_drewN _ wr nq).mono G.o.1.size),λ i a b hi h1 h3=>by
    rcases (by omega:i+1<m+1\/i=m)with h|rfl
    ·exact G.o.2 i a b h h1 h3
    rw[F.o.1]at h1;rw[F.o.2]at h3;cases h1;cases h3;exact hba⟩
   clear R P O S M L A C G F hba d;revert B;generalize wr.drewN nq=wu;intro B;clear nq;go_wp2_with fail
   go_roundw
   case rel=>exact⟨m+1+1,by omega,by omega,by go_num,B⟩
   case measure=>simp[intOf];omega
  have C:decide ((⟨bx,U,bk⟩:E)=⟨ax,V,ak⟩)=true:=yw hba;simp only[C]at A;have A0:¬ NeqE es:=λ hn=>hn m _ _ F.o.1 F.o.2 hba;have A5:=yK A0;clear A0 hba;obtain⟨ad,c9,T,had⟩:=rl (g:=g) (k:=m+1) (n:=es.length) (cap:=c) (s:=3) (by omega) A4;obtain rfl:=had hlt;obtain⟨N,hN⟩:∃ N,es.length-(m+1)=N:=⟨_,rfl⟩;rw[hN]at T;have A2:es.length=m+1+N:=by omega
  have H:=yK A2;clear A2;have x:=yK hN;clear hN;have A6:1<=N:=by have:=H.o;omega
  have C1:N<=1000000:=by have:=H.o;omega
  go_upto_region 6 with fail;refine zu 10 (by kernel_rfl) (by kernel_rfl) ?_;simp only[yh,yj,yi,yl]
  repeat(go_big_quiet_step (fail))
  refine wpQuiet_nil ?_;intro nq;have hI:=(IntRow.of HO.o).below (G.o.1.trans ((below_drewN _ wr nq).mono G.o.1.size));have B:Hid (IntRow (wr.drewN nq) base g es.length c/\Below base w (wr.drewN nq)):=yK ⟨hI,(G.o.1.trans ((below_drewN _ wr nq).mono G.o.1.size)).mono hbw⟩;clear R P O S M L A C G F d HO hI;revert B;generalize wr.drewN nq=wu;intro B;clear nq;go_wp2_with fail;clear T had;rw[x.o];go_loopw [3,5] (λ z y wq=>∃ k q:Nat,1<=q/\q<=N/\m+1<=k/\k<=m+q/\z=.int .i64 k/\y=.int .i64 q/\Hid (IntRow wq base g es.length c/\Below base w wq)) (λ _ y _=>N-(intOf y).toNat)
  case atStart=>exact⟨m+1,1,by omega,A6,by omega,by omega,rfl,rfl,B⟩
  clear B;obtain⟨k,q,B9,B5,B3,B0,rfl,rfl,HQ⟩:=hrel;by_cases hql:q<N
  case neg =>
   obtain rfl:q=N:=(by omega);have l:k<es.length:=(by have:=H.o;omega);obtain⟨W9,f,X⟩:=CR HQ.o.1 k (es.length-k) (c-k) (by omega) (by omega);have A7:=yK (X w HQ.o.2);clear X HQ H x;have B7:k<=c:=(by omega);go_wp2_with fail;clear f;go_ret;exact⟨_,k,_,rfl,⟨λ hn=>kV hn (by omega),λ hn=>kV hn A5.o⟩,by omega,A7.o⟩
  obtain⟨r,rfl⟩:∃ r,q=r+1:=⟨q-1,by omega⟩;have A8:=H.o;obtain⟨x0,I⟩:=HQ.o.1.cell (j:=(m+1)*3+(r+1)*3) (by omega);obtain⟨e,K⟩:=HQ.o.1.cell (j:=(m+1)*3+(r+1)*3+1) (by omega);obtain⟨x2,J⟩:=HQ.o.1.cell (j:=(m+1)*3+(r+1)*3+2) (by omega);obtain⟨y0,A1⟩:=HQ.o.1.cell (j:=(m+1)*3+r*3) (by omega);obtain⟨y1,t⟩:=HQ.o.1.cell (j:=(m+1)*3+r*3+1) (by omega);obtain⟨y2,Y⟩:=HQ.o.1.cell (j:=(m+1)*3+r*3+2) (by omega);have A:=jE ⟨x0,e,x2⟩ ⟨y0,y1,y2⟩;simp only at A;have l:(k:Int)<(es.length:Int):=by omega
  have C0:r<=1000000:=by omega
  have j1:(r:Int)<(N:Int):=by omega
  have j2:(0:Int)<=(r:Int):=by omega
  clear A8
  cases C:decide ((⟨x0,e,x2⟩:E)=⟨y0,y1,y2⟩)with
  | true =>
   rw[C]at A;go_upto_region 11 with fail;refine zu 10 (by kernel_rfl) (by kernel_rfl) ?_;simp only[yh,yj,yi,yl]
   repeat(go_big_quiet_step (fail))
   refine wpQuiet_nil ?_;intro nq;have D:=(below_drewN wr.heap.size wr nq);have B:Hid (IntRow (wr.drewN nq) base g es.length c/\Below base w (wr.drewN nq)):=yK ⟨HQ.o.1.below D,HQ.o.2.trans (D.mono (yJ hbw HQ.o.2.size))⟩;clear I K J A1 t Y A C HQ D l j1 j2;revert B;generalize wr.drewN nq=wu;intro B;clear nq;go_wp2_with fail
   go_roundw
   case rel=>exact⟨k,r+1+1,by omega,by omega,by omega,by omega,rfl,by go_num,B⟩
   case measure=>simp[intOf];omega
  | false =>
   rw[C]at A;go_upto_region 11 with fail;refine zu 10 (by kernel_rfl) (by kernel_rfl) ?_;simp only[yh,yj,yi,yl]
   repeat(go_big_quiet_step (fail))
   refine wpQuiet_nil ?_;intro nq;have D:=(below_drewN wr.heap.size wr nq);have B:Hid (IntRow (wr.drewN nq) base g es.length c/\Below base w (wr.drewN nq)):=yK ⟨HQ.o.1.below D,HQ.o.2.trans (D.mono (yJ hbw HQ.o.2.size))⟩;replace I:(wr.drewN nq).cell? ⟨g,(m+1)*3+(r+1)*3,none⟩=some (.int .i64 x0):=I;replace K:(wr.drewN nq).cell? ⟨g,(m+1)*3+(r+1)*3+1,none⟩=some (.int .i64 e):=K;replace J:(wr.drewN nq).cell? ⟨g,(m+1)*3+(r+1)*3+2,none⟩=some (.int .i64 x2):=J;clear A1 t Y A C HQ D j1 j2;revert B I K J;generalize wr.drewN nq=wu;intro B I K J;clear nq;obtain⟨z0,B1⟩:=B.o.1.cell (j:=k*3) (by omega);obtain⟨z1,B6⟩:=B.o.1.cell (j:=k*3+1) (by omega);obtain⟨z2,B2⟩:=B.o.1.cell (j:=k*3+2) (by omega);have B8:=B.o.1.frozen;have A9:(0:Int)<=(k:Int):=(by omega);have A3:Hid (IntRow (((wu.setCell ⟨g,k*3,none⟩ (.int .i64 x0)).setCell ⟨g,k*3+1,none⟩ (.int .i64 e)).setCell ⟨g,k*3+2,none⟩ (.int .i64 x2)) base g es.length c/\Below base w (((wu.setCell ⟨g,k*3,none⟩ (.int .i64 x0)).setCell ⟨g,k*3+1,none⟩ (.int .i64 e)).setCell ⟨g,k*3+2,none⟩ (.int .i64 x2))):=yK
    ⟨((B.o.1.store _ _).store _ _).store _ _,Ce B.o.2 B.o.1.ge.1 _ _ _ _ _ _⟩
   clear B;go_wp2_with fail
   go_roundw
   case rel=>exact⟨k+1,r+1+1,by omega,by omega,by omega,by omega,by go_num,by go_num,A3⟩
   case measure=>simp[intOf];omega
theorem pairE {l:List E}:l.Pairwise ltE↔AdjE l/\NeqE l:=by
 constructor
 ·intro h;have H:∀ (i:Nat) (a b:E),l[i]?=some a->l[i+1]?=some b->ltE a b:=λ i a b B C=>by
   obtain⟨D,rfl⟩:=yc.1 B;obtain⟨F,rfl⟩:=yc.1 C;exact YJ.1 h i (i+1) D F (by omega)
  refine⟨λ i a b B C hn=>?_,λ i a b B C e=>?_⟩
  ·have:=H i a b B C;unfold ltE Q.lt E.toQ at this hn;simp only at this hn;omega
  have:=H i a b B C;subst e;unfold ltE Q.lt E.toQ at this;simp only at this;omega
 rintro⟨B,C⟩;have A:∀ i,(D:i+1<l.length)->ltE (l[i]'(by omega)) l[i+1]:=λ i D=>by
  have L:l[i]?=some (l[i]'(by omega)):=yb (by omega);have I:l[i+1]?=some l[i+1]:=yb D;have J:=B i _ _ L I;have M:=C i _ _ L I;generalize l[i]'(by omega)=a at *;generalize l[i+1]=b at *;obtain⟨P,R,T⟩:=a;obtain⟨O,N,S⟩:=b;rw[ne_eq,E.mk.injEq]at M;unfold ltE Q.lt E.toQ at J ⊢;simp only at J ⊢;omega
 rw[YJ];intro i j D F hij;obtain⟨d,rfl⟩:∃ d,j=i+1+d:=⟨j-i-1,by omega⟩;clear hij
 induction d with
 | zero=>exact A i F
 | succ d ih =>
  have G:=ih (by omega);have K:ltE (l[i+1+d]'(by omega)) (l[i+1+(d+1)]):=A (i+1+d) F;unfold ltE Q.lt E.toQ at G K ⊢;simp only at G K ⊢;omega
def inE7 (e:E):Bool:=decide ((0<=e.x/\e.x<=16)/\(0<=e.y/\e.y<=16)/\(0<=e.k/\e.k<=5))
theorem DC {t:Tk}:OkT t↔(∀ c∈t.counts,0<=c/\c<=16)/\isK t.ground 64=true/\(1<=t.kinds.length/\t.kinds.length<=8)/\t.counts.length=t.kinds.length/\t.counts.sum<=16/\t.fixed.length<=16/\t.below.length<=400/\(AdjE t.below/\NeqE t.below)/\(t.kinds.all λ s=>isK s 16)=true/\t.below.all inE7=true:=by
 have A:∀ (s:List Q) (n:Nat),isK s n=true↔s.length<=n/\checkN s=0:=λ s n=>by unfold isK;exact decide_eq_true_iff
 have B:∀ e:E,inE7 e=true↔(0<=e.x/\e.x<=16)/\(0<=e.y/\e.y<=16)/\(0<=e.k/\e.k<=5):=λ e=>by unfold inE7;exact decide_eq_true_iff
 rw[YH,YH,<- pairE];constructor
 ·intro h;exact⟨h.cnt,(A _ _).2 ⟨h.g64,h.ground⟩,h.klen,h.clen,h.csum,h.fixed,h.blen,h.bsort,λ s hs=>(A _ _).2 ⟨h.kind16 s hs,h.kinds s hs⟩,λ e h'=>(B e).2 (h.bin e h')⟩
 rintro⟨a,b,c,d,e,f,g,i,j,k⟩;exact⟨((A _ _).1 b).2,((A _ _).1 b).1,λ s hs=>((A _ _).1 (j s hs)).2,λ s hs=>((A _ _).1 (j s hs)).1,c,d,a,e,f,g,λ x hx=>(B x).1 (k x hx),i⟩
theorem vA {w:World} {base base':Nat} {e:TypeId} {size:Nat} {v:Value} {n:Nat} {xs:List Value} (h:w.ownsRow base e size v n xs) (hb:base'<=base):w.ownsRow base' e size v n xs:=by
 refine⟨h.1,?_⟩;rcases h.2 with h2|⟨g,cap,cur,hv,hb2,r⟩
 ·exact .inl h2
 exact .inr ⟨g,cap,cur,hv,yJ hb hb2,r⟩
theorem bE {t:Tk} (w:World) (vg vk vc vf vb:Value) (hg:HasQ w vg t.ground) (hk:HasQQ w vk t.kinds) (hc:RI.Has w vc t.counts) (hf:RL.Has w vf t.fixed) (hb:RE.Has w vb t.below) (hcl:t.counts.length<=1000) (hbl:t.below.length<=1000000) :
  Calls Tryz.prog 13 #[.agg #[vg,vk,vc,vf,vb]] w (CkPost t w):=by
 have l:=yK (DC (t:=t));have E4:t.kinds.length<=9223372036854775807:=by
  rcases hk with⟨_,h⟩|⟨_,_,_,_,h1,h2,_⟩
  ·rw[h];decide
  simp only[maxLen]at h2;omega
 have E5:t.fixed.length<=9223372036854775807:=by
  rcases hf with⟨_,h⟩|⟨_,_,_,h1,h2,_⟩
  ·rw[h];decide
  simp only[maxLen]at h2;omega
 obtain⟨gp,gc,rfl⟩:=hg.slice;obtain⟨kp,kc,rfl⟩:=hk.slice;obtain⟨cp,cc,rfl⟩:=hc.slice;obtain⟨fp,fc,rfl⟩:=hf.slice;obtain⟨I,J,rfl⟩:=hb.slice;have C3:=yK hb;clear hb;have HG:=yK hg;clear hg;have HK:=yK hk;clear hk;have HC:=yK hc;clear hc;have HF:=yK hf;clear hf;generalize B3:CkPost t w=Po;have A1:=yK B3;clear B3;go_enter func13,ntmps13;go_wp2_with fail;have hT:=yd w (.cells (tA t gp gc kp kc cp cc fp fc I J) 34);have hB:Below w.heap.size w (w.alloc (.cells (tA t gp gc kp kc cp cc fp fc I J) 34)):=(yf _ w).alloc (ye _) _;revert hT hB;generalize w.alloc (.cells (tA t gp gc kp kc cp cc fp fc I J) 34)=w1;intro hT hB;have Y:=yK hB;clear hB;have C8:=(ya.1 hT).1;have U:∀ W,Below w1.heap.size w1 W->W.heap[w.heap.size]?=some (.cells (tA t gp gc kp kc cp cc fp fc I J) 34 (0,0)):=λ W h=>(h.block _ C8).trans hT;have D:=yK U;clear U;have t2:w1.cell? ⟨w.heap.size,2,none⟩=some (.slice cp t.counts.length cc):=by simp only[World.cell?,hT];rfl
 go_wp2_with fail;clear t2 hT;go_loopw [4,16] (λ u z wr=>∃ i:Nat,i<=t.counts.length/\u=.int .i64 (t.counts.take i).sum/\z=.int .i64 i/\Hid (Below w1.heap.size w1 wr/\∀ c∈t.counts.take i,0<=c/\c<=16)) (λ _ z _=>t.counts.length-(intOf z).toNat)
 case atStart=>exact⟨0,by omega,rfl,rfl,yK ⟨yf _ _,by simp⟩⟩
 case round =>
  obtain⟨i,hi,rfl,rfl,F⟩:=hrel;by_cases hlt:i<t.counts.length
  ·obtain⟨c,hc⟩:∃ c,t.counts[i]?=some c:=⟨_,yb hlt⟩;obtain⟨ca,rfl,C0⟩:=(HC.o.below (Y.o.tm F.o.1)).at_ (by rintro e;rw[e]at hc;simp at hc);have c0:=RI.at_cell C0 hc;have B1:=Ap F.o.2;rw[Ye]at B1;have B4:=CI hc;have A4:=yK B4;clear B4;have C5:=yK hc;clear hc C0;by_cases H:0<=c/\c<=16
   ·have O:Hid (∀ W,Calls Tryz.prog 43 #[.int .i64 c,.int .i64 0,.int .i64 16] W λ e w'=>e=.returned (.bool true)/\w'=W):=yK λ W=>by
     refine(zF c 0 16 W).mono ?_;rintro e w' ⟨rfl,rfl⟩;exact⟨qL (yw H),rfl⟩
    obtain⟨s,K⟩:∃ s,(t.counts.take i).sum=s:=⟨_,rfl⟩;rw[K]at A4 B1;rw[K];go_wp2_with (refine(O.o _).mono ?_;rintro e w' ⟨rfl,rfl⟩)
    go_roundw
    case rel=>
     refine⟨i+1,by omega,by rw[A4.o],by go_num,yK ⟨F.o.1,λ x hx=>?_⟩⟩;rw[zn C5.o]at hx;rcases yY.1 hx with h|h
     ·exact F.o.2 x h
     rw[yU]at h;subst h;exact H
    case measure=>simp[intOf];omega
   have O:Hid (∀ W,Calls Tryz.prog 43 #[.int .i64 c,.int .i64 0,.int .i64 16] W λ e w'=>e=.returned (.bool false)/\w'=W):=yK λ W=>by
    refine(zF c 0 16 W).mono ?_;rintro e w' ⟨rfl,rfl⟩;exact⟨qL (yv H),rfl⟩
   have D1:=yK H;clear H;obtain⟨s,K⟩:∃ s,(t.counts.take i).sum=s:=⟨_,rfl⟩;rw[K];clear B1 A4 K;go_wp2_with (refine(O.o _).mono ?_;rintro e w' ⟨rfl,rfl⟩);rw[<- A1.o];refine⟨2,rfl,⟨λ h=>(by cases h),λ h=>?_⟩,.inr rfl,Y.o.tm F.o.1⟩;exact kV ((l.o.1 h).1 c (yg C5.o)) D1.o
  obtain rfl:i=t.counts.length:=by omega
  have hr:=F.o;rw[Yc]at hr;obtain⟨C2,j⟩:=hr;rw[Yc];have B9:=yK j;clear j;clear F;have T:=yK C2;clear C2;obtain⟨S,hS⟩:∃ S,t.counts.sum=S:=⟨_,rfl⟩;rw[hS];have v:=yK hS;clear hS;have B8:=D.o wr T.o;have d4:wr.cell? ⟨w.heap.size,4,none⟩=some (.slice I t.below.length J):=by simp only[World.cell?,B8];rfl
  have V:∀ w',Below wr.heap.size wr w'->w'.cell? ⟨w.heap.size,4,none⟩=some (.slice I t.below.length J)/\Below wr.heap.size wr w':=λ w' h=>by
   refine⟨?_,h⟩;rw[cell_of_block (h.block _ (World.block_lt_of_cell? wr _ d4))];exact d4
  have a:=yK V;clear V B8;have D6:w.heap.size<=wr.heap.size:=yJ Y.o.size T.o.size;have Z:Hid (∀ W',Below wr.heap.size wr W'->RE.Has W' (.slice I t.below.length J) t.below):=yK λ W' h=>C3.o.below (Y.o.trans ((T.o.tm h).mono Y.o.size));go_upto_region 10 with fail;go_cut [7]from 27 to 40 (λ u wx=>∃ r:Bool,u=.bool r/\Hid ((r=true↔AdjE t.below/\NeqE t.below)/\Below w1.heap.size w1 wx))
  case first =>
   by_cases K:AdjE t.below
   case neg =>
    have e4:∀ d:SubW wr,d.1.cell? ⟨w.heap.size,4,none⟩=some (.slice I t.below.length J):=λ d=>(a.o d.1 d.2).1;have A6:Hid (∀ d:SubW wr,Calls Tryz.prog 44 #[.slice I t.below.length J,.func (.func 45) #[] #[]] d.1 λ e w'=>e=.returned (.bool false)/\∃ d':SubW wr,w'=d'.1):=yK λ d=>(mR t.below _ d.1 (Z.o d.1 d.2) hbl).mono λ e w' ⟨r,h1,h2,h3⟩=>⟨by
     cases r with
     | false=>exact h1
     | true=>exact kV (h2.1 rfl) K,⟨w',d.2.tm h3⟩,rfl⟩
    refine zg 15 (by kernel_rfl) (by kernel_rfl) ?_;simp only[yh,yj,yi,yl]
    repeat(go_big_quiet_step ((exact A6.o _)))
    refine wpQuiet_nil ?_;intro dq;have HX:=yK (T.o.tm dq.2);go_wp2_with fail
    go_meet
    case rel=>exact⟨false,rfl,yK ⟨⟨λ h=>(by cases h),λ h=>kV h.1 K⟩,HX.o⟩⟩
   have A6:Hid (∀ W',Below wr.heap.size wr W'->Calls Tryz.prog 44 #[.slice I t.below.length J,.func (.func 45) #[] #[]] W' λ e w'=>e=.returned (.bool true)/\Below wr.heap.size wr w'):=yK λ W' hW=>(mR t.below _ W' (Z.o W' hW) hbl).mono λ e w' ⟨r,h1,h2,h3⟩=>⟨by
    cases r with
    | true=>exact h1
    | false=>exact kV (h2.2 K) (by decide),hW.tm h3⟩
   have D8:Hid (∀ W',Below wr.heap.size wr W'->Calls Tryz.prog 47 #[.slice I t.below.length J] W' λ e w'=>∃ p c,e=.returned (.slice p t.below.length c)/\OwnEd w' wr.heap.size (.slice p t.below.length c) t.below/\Below wr.heap.size wr w'):=yK λ W' hW=>(rT t.below _ W' (Z.o W' hW) hbl).mono λ e w' ⟨u,h1,h2,h3⟩=>by
    obtain⟨p,c,rfl⟩:=zf h2;exact⟨p,c,h1,vA h2 hW.size,hW.tm h3⟩
   have D7:Hid (∀ W' v',OwnEd W' wr.heap.size v' t.below->Below wr.heap.size wr W'->Calls Tryz.prog 46 #[v'] W' λ e w'=>∃ (p:Option Addr) (n c:Nat),e=.returned (.slice p n c)/\(n=t.below.length↔NeqE t.below)/\Below wr.heap.size wr w'):=yK λ W' v' ho hW=>(tZ t.below v' wr.heap.size W' ho hW.size hbl).mono λ e w' ⟨p,n,c,h1,h2,_,h4⟩=>⟨p,n,c,h1,h2,hW.trans h4⟩;have HD:Hid (Below wr.heap.size wr wr.drew):=yK ((yf _ wr).drew);clear d4;go_region_held3 (λ w'=>w'.cell? ⟨w.heap.size,4,none⟩=some (.slice I t.below.length J)/\Below wr.heap.size wr w') (first|exact a.o _ (by assumption)|exact a.o _ HD.o)
    (first
     | (go_at_call 44;refine(A6.o wr.drew HD.o).mono ?_;rintro e wa ⟨rfl,E1⟩)
     | (go_at_call 47;refine(D8.o wa E1).mono ?_;rintro e wb ⟨p2,c2,rfl,E0,D5⟩)
     | (go_at_call 46;refine(D7.o wb _ E0 D5).mono ?_;rintro e w' ⟨p3,n3,c3,rfl,C4,D2⟩))
   have HX:=yK (T.o.tm D2);go_wp2_with fail
   go_meet
   case rel=>exact⟨_,rfl,yK ⟨⟨λ h=>⟨K,C4.1 (by have:=eq_of_beq h;omega)⟩,λ h=>by rw[beq_iff_eq,C4.2 h.2]⟩,HX.o⟩⟩
  obtain⟨r,rfl,N⟩:=hcut;clear a Z d4 D6;have m:=D.o wc N.o.2;have e0:wc.cell? ⟨w.heap.size,0,none⟩=some (.slice gp t.ground.length gc):=by simp only[World.cell?,m];rfl
  have k:=Y.o.tm N.o.2;have M:=yK (oz t.ground _ 64 (by decide) wc (HG.o.below k));clear k m;go_upto_region 11 with fail;go_cut [8]from 41 to 78 (λ u wx=>∃ b:Bool,u=.bool b/\Hid ((b=true↔isK t.ground 64=true/\(1<=t.kinds.length/\t.kinds.length<=8)/\t.counts.length=t.kinds.length/\t.counts.sum<=16/\t.fixed.length<=16/\t.below.length<=400/\r=true)/\Below w1.heap.size w1 wx))
  case first =>
   go_wp2_with fail;refine M.o.mono ?_;rintro e w3 ⟨rfl,B2⟩;have B:=yK (N.o.2.tm B2);clear B2 M N e0;have C:=D.o w3 B.o;have e1:w3.cell? ⟨w.heap.size,1,none⟩=some (.slice kp t.kinds.length kc):=(by simp only[World.cell?,C];rfl);have e2:w3.cell? ⟨w.heap.size,2,none⟩=some (.slice cp t.counts.length cc):=(by simp only[World.cell?,C];rfl);have e3:w3.cell? ⟨w.heap.size,3,none⟩=some (.slice fp t.fixed.length fc):=(by simp only[World.cell?,C];rfl);have e4:w3.cell? ⟨w.heap.size,4,none⟩=some (.slice I t.below.length J):=(by simp only[World.cell?,C];rfl);clear C;obtain⟨g1,A8⟩:∃ g1,isK t.ground 64=g1:=⟨_,rfl⟩;rw[A8];have C1:=yK A8;clear A8
   cases g1 with
   | false =>
    go_wp2_with fail
    go_meet
    case rel=>exact⟨false,rfl,yK ⟨⟨λ h=>(by cases h),λ h=>(by have:=h.1;rw[C1.o]at this;cases this)⟩,B.o⟩⟩
   | true =>
    by_cases h2:1<=t.kinds.length/\t.kinds.length<=8
    case neg =>
     have O:Hid (∀ W,Calls Tryz.prog 43 #[.int .i64 t.kinds.length,.int .i64 1,.int .i64 8] W λ e w'=>e=.returned (.bool false)/\w'=W):=yK λ W=>by
      refine(zF _ 1 8 W).mono ?_;rintro e w' ⟨rfl,rfl⟩;exact⟨qL (yv (by omega)),rfl⟩
     have H2:=yK h2;clear h2;go_wp2_with fail;refine(O.o _).mono ?_;rintro e w' ⟨rfl,rfl⟩;go_wp2_with fail
     go_meet
     case rel=>exact⟨false,rfl,yK ⟨⟨λ h=>(by cases h),λ h=>kV h.2.1 H2.o⟩,B.o⟩⟩
    have O:Hid (∀ W,Calls Tryz.prog 43 #[.int .i64 t.kinds.length,.int .i64 1,.int .i64 8] W λ e w'=>e=.returned (.bool true)/\w'=W):=yK λ W=>by
     refine(zF _ 1 8 W).mono ?_;rintro e w' ⟨rfl,rfl⟩;exact⟨qL (yw (by omega)),rfl⟩
    have H2:=yK h2;clear h2;by_cases h3:t.counts.length=t.kinds.length
    case neg =>
     have C9:((t.counts.length:Int)==(t.kinds.length:Int))=false:=(by simp only[Ys,ne_eq];omega);have H3:=yK h3;clear h3;go_wp2_with fail;refine(O.o _).mono ?_;rintro e w' ⟨rfl,rfl⟩;go_wp2_with fail
     go_meet
     case rel=>exact⟨false,rfl,yK ⟨⟨λ h=>(by cases h),λ h=>kV h.2.2.1 H3.o⟩,B.o⟩⟩
    have C9:((t.counts.length:Int)==(t.kinds.length:Int))=true:=(by rw[h3];exact beq_self_eq_true _);have H3:=yK h3;clear h3;by_cases h4:S<=16
    case neg =>
     have C7:decide (S<=16)=false:=yv h4;have H4:=yK h4;clear h4;go_wp2_with fail;refine(O.o _).mono ?_;rintro e w' ⟨rfl,rfl⟩;go_wp2_with fail
     go_meet
     case rel=>exact⟨false,rfl,yK ⟨⟨λ h=>(by cases h),λ h=>kV h.2.2.2.1 (by have:=H4.o;rw[v.o];omega)⟩,B.o⟩⟩
    have C7:decide (S<=16)=true:=yw h4;have H4:=yK h4;clear h4;by_cases h5:t.fixed.length<=16
    case neg =>
     have E2:decide ((t.fixed.length:Int)<=16)=false:=yv (by omega);have H5:=yK h5;clear h5;go_wp2_with fail;refine(O.o _).mono ?_;rintro e w' ⟨rfl,rfl⟩;go_wp2_with fail
     go_meet
     case rel=>exact⟨false,rfl,yK ⟨⟨λ h=>(by cases h),λ h=>kV h.2.2.2.2.1 H5.o⟩,B.o⟩⟩
    have E2:decide ((t.fixed.length:Int)<=16)=true:=yw (by omega);have H5:=yK h5;clear h5;by_cases h6:t.below.length<=400
    case neg =>
     have E3:decide ((t.below.length:Int)<=400)=false:=yv (by omega);have H6:=yK h6;clear h6;go_wp2_with fail;refine(O.o _).mono ?_;rintro e w' ⟨rfl,rfl⟩;go_wp2_with fail
     go_meet
     case rel=>exact⟨false,rfl,yK ⟨⟨λ h=>(by cases h),λ h=>kV h.2.2.2.2.2.1 H6.o⟩,B.o⟩⟩
    have E3:decide ((t.below.length:Int)<=400)=true:=yw (by omega);have H6:=yK h6;clear h6;go_wp2_with fail;refine(O.o _).mono ?_;rintro e w' ⟨rfl,rfl⟩;go_wp2_with fail
    go_meet
    case rel=>exact⟨r,rfl,yK ⟨⟨λ h=>⟨C1.o,H2.o,H3.o,by rw[v.o];exact H4.o,H5.o,H6.o,h⟩,λ h=>h.2.2.2.2.2.2⟩,B.o⟩⟩
  obtain⟨b,rfl,A9⟩:=hcut;clear M e0;have C:=D.o wc A9.o.2;have e1:wc.cell? ⟨w.heap.size,1,none⟩=some (.slice kp t.kinds.length kc):=by simp only[World.cell?,C];rfl
  clear C;have B:Hid (Below w1.heap.size w1 wc):=yK A9.o.2;go_wp2_with fail;go_loopw [8,82] (λ u z wr=>∃ i:Nat,i<=t.kinds.length/\u=.bool (b&&(t.kinds.take i).all λ s=>isK s 16)/\z=.int .i64 i/\Hid (Below w1.heap.size w1 wr)) (λ _ z _=>t.kinds.length-(intOf z).toNat)
  case atStart=>exact⟨0,by omega,by simp,rfl,B⟩
  clear B e1;obtain⟨i,hi,rfl,rfl,F⟩:=hrel;by_cases hlt:i<t.kinds.length
  case pos =>
   obtain⟨s,K⟩:∃ s,t.kinds[i]?=some s:=⟨_,yb hlt⟩;obtain⟨ka,sv,rfl,D4,A2⟩:=(HK.o.below (Y.o.tm F.o)).at K;obtain⟨sp,sc,rfl⟩:=A2.slice;obtain⟨A,hA⟩:∃ A,(b&&(t.kinds.take i).all λ s=>isK s 16)=A:=⟨_,rfl⟩;have G:Hid ((b&&(t.kinds.take (i+1)).all λ s=>isK s 16)=(A&&isK s 16)):=yK (by rw[nS (f:=λ s=>isK s 16) K,<- Bool.and_assoc,hA]);have M:=yK (oz s _ 16 (by decide) wr A2);clear A2 K;rw[hA];clear hA
   cases A with
   | true =>
    go_wp2_with fail;refine M.o.mono ?_;rintro e w5 ⟨rfl,B7⟩;have D0:=yK (F.o.tm B7);clear B7 M D4 F;go_wp2_with fail
    go_roundw
    case rel=>exact⟨i+1,by omega,by rw[G.o];simp only[kU],by go_num,D0⟩
    case measure=>simp[intOf];omega
   | false =>
    go_wp2_with fail
    go_roundw
    case rel=>exact⟨i+1,by omega,by rw[G.o];rfl,by go_num,F⟩
    case measure=>simp[intOf];omega
  obtain rfl:i=t.kinds.length:=by omega
  rw[Yc];have q:=D.o wr F.o;have e4:wr.cell? ⟨w.heap.size,4,none⟩=some (.slice I t.below.length J):=by simp only[World.cell?,q];rfl
  clear q;obtain⟨b2,B0⟩:∃ b2,(b&&t.kinds.all λ s=>isK s 16)=b2:=⟨_,rfl⟩;rw[B0];have D9:=yK B0;clear B0;go_wp2_with fail;clear e4;go_loopw [8,96] (λ u z wr=>∃ i:Nat,i<=t.below.length/\u=.bool (b2&&(t.below.take i).all inE7)/\z=.int .i64 i/\Hid (Below w1.heap.size w1 wr)) (λ _ z _=>t.below.length-(intOf z).toNat)
  case atStart=>exact⟨0,by omega,by simp,rfl,F⟩
  clear F;obtain⟨i,hi,rfl,rfl,F⟩:=hrel;by_cases hlt:i<t.below.length
  case pos =>
   obtain⟨e,he⟩:∃ e,t.below[i]?=some e:=⟨_,yb hlt⟩;obtain⟨xa,rfl,B6⟩:=(C3.o.below (Y.o.tm F.o)).at_ (by rintro e';rw[e']at he;simp at he);have C6:(Instr.loadAt 61 (.pointer (some (xa.add (i*3))))).run Tryz.prog wr=.ok (.agg (eVals e).toArray) wr:=zl (P:=Tryz.prog) (R:=RE) underlying61 rfl (by kernel_rfl) B6 he;obtain⟨A,hA⟩:∃ A,(b2&&(t.below.take i).all inE7)=A:=⟨_,rfl⟩;have G:Hid ((b2&&(t.below.take (i+1)).all inE7)=(A&&inE7 e)):=yK (by rw[nS he,<- Bool.and_assoc,hA]);rw[hA];clear hA B6 he;have g:(Tryz.prog.info? 61).map (·.size)=some (eVals e).toArray.size:=(by kernel_rfl);have X:(eVals e).toArray.all (·.oneCell')=true:=(by simp[eVals,Value.oneCell']);go_upto_region 20 with(first
    | (refine qo rfl 61 _ rfl rfl C6 ?_)
    | (refine wpList_store_row rfl 61 _ _ rfl wr.heap.size rfl 61 _ (eVals e).toArray rfl (yd wr _) g rfl X ?_;rw[World.setRow_alloc_new]))
   have hE:=yd wr (.cells (eVals e).toArray 61);have hbl:Below wr.heap.size wr (wr.alloc (.cells (eVals e).toArray 61)):=(yf _ wr).alloc (ye _) _;revert hE hbl;generalize wr.alloc (.cells (eVals e).toArray 61)=w3;intro hE hbl;have B:=yK (F.o.tm hbl);clear hbl C6 F g X;generalize wr.heap.size=eb at *;obtain⟨ex,ey,ek⟩:=e;have c0:w3.cell? ⟨eb,0,none⟩=some (.int .i64 ex):=(by simp[World.cell?,hE,eVals]);have c1:w3.cell? ⟨eb,1,none⟩=some (.int .i64 ey):=(by simp[World.cell?,hE,eVals]);have c2:w3.cell? ⟨eb,2,none⟩=some (.int .i64 ek):=(by simp[World.cell?,hE,eVals]);clear hE
   cases A with
   | false =>
    clear c0 c1 c2;go_wp2_with fail
    go_roundw
    case rel=>exact⟨i+1,by omega,by rw[G.o];rfl,by go_num,B⟩
    case measure=>simp[intOf];omega
   | true =>
    obtain⟨q1,A7⟩:∃ q1,decide (0<=ex/\ex<=16)=q1:=⟨_,rfl⟩;obtain⟨q2,y⟩:∃ q2,decide (0<=ey/\ey<=16)=q2:=⟨_,rfl⟩;obtain⟨q3,A3⟩:∃ q3,decide (0<=ek/\ek<=5)=q3:=⟨_,rfl⟩;have H:inE7 ⟨ex,ey,ek⟩=(q1&&(q2&&q3)):=by
     rw[<- A7,<- y,<- A3];unfold inE7;simp only[Bool.decide_and]
    rw[H]at G;have A0:Hid (∀ W,Calls Tryz.prog 43 #[.int .i64 ex,.int .i64 0,.int .i64 16] W λ e w'=>e=.returned (.bool q1)/\w'=W):=yK λ W=>by
     refine(zF _ 0 16 W).mono ?_;rintro e w' ⟨rfl,rfl⟩;exact⟨qL (by rw[<- A7]),rfl⟩
    have B5:Hid (∀ W,Calls Tryz.prog 43 #[.int .i64 ey,.int .i64 0,.int .i64 16] W λ e w'=>e=.returned (.bool q2)/\w'=W):=yK λ W=>by
     refine(zF _ 0 16 W).mono ?_;rintro e w' ⟨rfl,rfl⟩;exact⟨qL (by rw[<- y]),rfl⟩
    have D3:Hid (∀ W,Calls Tryz.prog 43 #[.int .i64 ek,.int .i64 0,.int .i64 5] W λ e w'=>e=.returned (.bool q3)/\w'=W):=yK λ W=>by
     refine(zF _ 0 5 W).mono ?_;rintro e w' ⟨rfl,rfl⟩;exact⟨qL (by rw[<- A3]),rfl⟩
    clear H A7 y A3
    cases q1 with
    | false =>
     go_wp2_with fail;refine(A0.o _).mono ?_;rintro e w' ⟨rfl,rfl⟩;go_wp2_with fail
     go_roundw
     case rel=>exact⟨i+1,by omega,by rw[G.o];rfl,by go_num,B⟩
     case measure=>simp[intOf];omega
    | true =>
     cases q2 with
     | false =>
      go_wp2_with fail;refine(A0.o _).mono ?_;rintro e w' ⟨rfl,rfl⟩;go_wp2_with fail;refine(B5.o _).mono ?_;rintro e w' ⟨rfl,rfl⟩;go_wp2_with fail
      go_roundw
      case rel=>exact⟨i+1,by omega,by rw[G.o];rfl,by go_num,B⟩
      case measure=>simp[intOf];omega
     | true =>
      go_wp2_with fail;refine(A0.o _).mono ?_;rintro e w' ⟨rfl,rfl⟩;go_wp2_with fail;refine(B5.o _).mono ?_;rintro e w' ⟨rfl,rfl⟩;go_wp2_with fail;refine(D3.o _).mono ?_;rintro e w' ⟨rfl,rfl⟩;go_wp2_with fail
      go_roundw
      case rel=>exact⟨i+1,by omega,by rw[G.o];simp only[kU],by go_num,B⟩
      case measure=>simp[intOf];omega
  obtain rfl:i=t.below.length:=by omega
  rw[Yc];obtain⟨b3,A5⟩:∃ b3,(b2&&t.below.all inE7)=b3:=⟨_,rfl⟩;rw[A5];have L:Hid (b3=true↔OkT t):=yK (by
   rw[<- A5,<- D9.o,l.o,Yq,Yq,A9.o.1,N.o.1];constructor
   ·rintro⟨⟨⟨x1,x2,x3,x4,x5,x6,x7⟩,x8⟩,x9⟩;exact⟨B9.o,x1,x2,x3,x4,x5,x6,x7,x8,x9⟩
   rintro⟨_,x1,x2,x3,x4,x5,x6,x7,x8,x9⟩;exact⟨⟨⟨x1,x2,x3,x4,x5,x6,x7⟩,x8⟩,x9⟩)
  clear A5
  cases b3 with
  | true =>
   have HY:=yK (L.o.1 rfl);clear L;go_wp2_with fail;rw[<- A1.o];exact⟨0,rfl,⟨λ _=>HY.o,λ _=>rfl⟩,.inl rfl,Y.o.tm F.o⟩
  | false =>
   have HY:Hid (¬ OkT t):=yK (λ h=>by have:=L.o.2 h;cases this);clear L;go_wp2_with fail;rw[<- A1.o];exact⟨2,rfl,⟨λ h=>(by cases h),λ h=>kV h HY.o⟩,.inr rfl,Y.o.tm F.o⟩
theorem BG {t:Tk} (ho:OkT t) {L:List E} (hL:LOk t.ground L):∀ e∈L,okE e:=λ e he=>by
 obtain⟨q,hq,hqe⟩:=(hL.mem e).1 he;exact an ((qj ho.ground).1.1 q hq) e hqe
theorem xF {t:Tk} (ho:OkT t):∀ e∈t.below,okE e:=λ e he=>ho.bin e he
theorem jB {t:Tk} (ho:OkT t) {L:List E} (hL:LOk t.ground L) (w:World) (bb:Nat) (bv:BV) (hb:BdAt w bb bv t L (pcsT t L) (belT t L)) (htb:TbAt w) (l:List Ld) (h16:l.length<=16) (v:Value) (hv:RL.Has w v l) (hjs:RE.Has w bv.b t.below) :
  Calls Tryz.prog 59 #[.pointer (some ⟨bb,0,none⟩),v] w (CovPost t t.below L l w) :=
 zE (aA ho hL) w bb bv hb htb l h16 v hv hjs ho.fixed (yJ ho.blen (by decide)) hL.nodup (BG ho hL) (xF ho)
def CovTask (t:Tk) (l:List Ld) (w:World) (e:Ending) (w':World):Prop:=∃ n i code:Nat,e=.returned (.tuple #[.int .i64 n,.int .i64 i,.int .i64 code])/\Bw w w' /\
 (¬ OkT t->(n,i,code)=(0,0,2))/\(OkT t->16<l.length->(n,i,code)=(0,0,5))/\(OkT t->l.length<=16->(n,i)=coversT t l/\code=0)
theorem zP {t:Tk} (w:World) (vg vk vc vf vb v:Value) (hg:HasQ w vg t.ground) (hk:HasQQ w vk t.kinds) (hc:RI.Has w vc t.counts) (hcf:flatV vc) (hf:RL.Has w vf t.fixed) (hb:RE.Has w vb t.below) (hcl:t.counts.length<=1000) (hbl:t.below.length<=1000000) (htb:TbAt w) (l:List Ld) (hll:l.length<=1000000) (hv:RL.Has w v l) :
  Calls Tryz.prog 19 #[.agg #[vg,vk,vc,vf,vb],v] w (CovTask t l w):=by
 obtain⟨g,s,rfl⟩:=hg.slice;obtain⟨f,q,rfl⟩:=hk.slice;obtain⟨k,r,rfl⟩:=hc.slice;obtain⟨c,p,rfl⟩:=hf.slice;obtain⟨P,S,rfl⟩:=hb.slice;obtain⟨vp,vq,rfl⟩:=hv.slice;have B0:∀ W,Bw w W->Calls Tryz.prog 13 #[.agg (tA t g s f q k r c p P S)] W (CkPost t W) :=
  λ W h=>bE W _ _ _ _ _ (hg.below h) (hk.below h) (hc.below h) (hf.below h) (hb.below h) hcl hbl
 have B1:OkT t->∀ W,Bw w W->Calls Tryz.prog 37 #[.agg (tA t g s f q k r c p P S)] W λ e w'=>∃ (B:Nat) (F:BV) (L:List E),e=.returned (.pointer (some ⟨B,0,none⟩))/\W.heap.size<=B/\BdAt w' B F t L (pcsT t L) (belT t L)/\LOk t.ground L/\Bw W w'/\F.b=.slice P t.below.length S :=
  λ ho W h=>(eu ho W _ _ _ _ _ (hg.below h) (hk.below h) (hc.below h) hcf (hf.below h) (hb.below h)).mono λ e w' ⟨B,F,L,h1,h2,h3,h4,h5,h6⟩=>⟨B,F,L,h1,h2,h3,h4,h5,h6.b⟩
 have B5:∀ W B F L,OkT t->l.length<=16->Bw w W->LOk t.ground L->BdAt W B F t L (pcsT t L) (belT t L)->F.b=.slice P t.below.length S->Calls Tryz.prog 59 #[.pointer (some ⟨B,0,none⟩),.slice vp l.length vq] W (CovPost t t.below L l W) :=
  λ W B F L ho h16 h hl J K=>jB ho hl W B F J (htb.below h) l h16 _ (hv.below h) (by rw[K];exact hb.below h)
 have A0:=yK B0;clear B0;have A9:=yK B1;clear B1;have B2:=yK B5;clear B5 hg hk hc hf htb hcf hv hb;go_enter func19,ntmps19;go_wp2_with fail;have m:=yd w (.cells (tA t g s f q k r c p P S) 34);have hB:Bw w (w.alloc (.cells (tA t g s f q k r c p P S) 34)):=(yf _ w).alloc (ye _) _;revert m hB;generalize w.alloc (.cells (tA t g s f q k r c p P S) 34)=w1;intro m hB;have HB:=yK hB;clear hB;have A1:=(ya.1 m).1;refine(A0.o w1 HB.o).mono ?_;rintro e w2 ⟨C0,rfl,h0,h2,Z⟩;have Y:=(Z.block _ A1).trans m;have H:=yK (HB.o.tm Z);clear Z HB A1;rcases h2 with rfl|rfl
 case inr =>
  have B3:Hid (¬ OkT t):=yK λ h=>kV (h0.2 h) (by decide);clear h0 Y m;go_wp2_with fail;refine Yb (ir rfl _ _ _ _ _ rfl rfl rfl) rfl ?_;exact⟨0,0,2,rfl,H.o,λ _=>rfl,λ h=>kV h B3.o,λ h=>kV h B3.o⟩
 case inl =>
  have I:Hid (OkT t):=yK (h0.1 rfl);have A:∀ j,w2.cell? ⟨w.heap.size,j,none⟩=(#[.slice g t.ground.length s,.slice f t.kinds.length q,.slice k t.counts.length r,.slice c t.fixed.length p,.slice P t.below.length S]:Array Value)[j]?:=λ j=>by simp only[World.cell?,Y];simp
  have c0:=A 0;have c1:=A 1;have c2:=A 2;have c3:=A 3;have c4:=A 4;simp at c0 c1 c2 c3 c4;clear A m A0 Y h0;have HL:=yK (A9.o I.o w2 H.o);clear A9;by_cases h16:l.length<=16
  case neg =>
   have B6:decide ((16:Int)<(l.length:Int))=true:=yw (by omega);clear c0 c1 c2 c3 c4;have N:=yK h16;clear h16;go_wp2_with fail;refine Yb (ir rfl _ _ _ _ _ rfl rfl rfl) rfl ?_;exact⟨0,0,5,rfl,H.o,λ h=>kV I.o h,λ _ _=>rfl,λ _ h=>kV h N.o⟩
  have B6:decide ((16:Int)<(l.length:Int))=false:=yv (by omega);have N:=yK h16;clear h16;go_wp2_with fail;refine HL.o.mono ?_;rintro e w3 ⟨B,F,L,rfl,B8,J,O,z,K⟩;have A5:=yK (H.o.tm z);clear z HL;have A8:=yK (B2.o w3 B F L I.o N.o A5.o O J K);clear B2 J O c0 c1 c2 c3 c4 B8 K;go_wp2_with fail;refine A8.o.mono ?_;rintro e w4 ⟨n,i,x,rfl,A4,A3,V,R,_⟩;have B7:=yK A4;clear A4;have M:=yK (A5.o.tm A3);clear A3 A8;have B4:(Tryz.prog.info? 108).map (·.size)=some x.size:=by rw[<- V];exact sizeS
  have D:(Tryz.prog.info? 135).map (·.size)=some (#[.int .i64 n,.int .i64 i]:Array Value).size:=by kernel_rfl
  obtain⟨G,C⟩:∃ G:Array Value,#[.int .i64 n,.int .i64 i]=G:=⟨_,rfl⟩;rw[C]at D ⊢;have T:G.all (·.oneCell')=true:=by rw[<- C];simp[Value.oneCell']
  have A2:(#[.int .i64 0,.int .i64 0]:Array Value).size=G.size:=by rw[<- C];rfl
  have y:=yK C;clear C;have X:=(zZ w4 (.cells #[.int .i64 0,.int .i64 0] 135) (.cells (hsVals zeroS).toArray 108)).1;have A7:=(setRow_other ((w4.alloc (.cells #[.int .i64 0,.int .i64 0] 135)).alloc (.cells (hsVals zeroS).toArray 108)) w4.heap.size (w4.heap.size+1) G (by omega)).trans (zZ w4 (.cells #[.int .i64 0,.int .i64 0] 135) (.cells (hsVals zeroS).toArray 108)).2.1;go_upto_region 7 with(first
   | (refine wpList_store_row rfl 135 _ _ rfl w4.heap.size rfl 135 _ G rfl X D A2 T ?_)
   | (refine wpList_store_row rfl 108 _ _ rfl (w4.heap.size+1) rfl 108 _ x rfl A7 B4 V R ?_))
  simp only[Act.put];have B9:((((w4.alloc (.cells #[.int .i64 0,.int .i64 0] 135)).alloc (.cells (hsVals zeroS).toArray 108)).setRow w4.heap.size G).setRow (w4.heap.size+1) x).heap[w4.heap.size]?=some (.cells G 135 (0,0)):=(setRow_other _ _ _ _ (by omega)).trans (setRow_heap _ _ _ _ _ _ X);have A6:Bw w ((((w4.alloc (.cells #[.int .i64 0,.int .i64 0] 135)).alloc (.cells (hsVals zeroS).toArray 108)).setRow w4.heap.size G).setRow (w4.heap.size+1) x):=zi (zi (M.o.trans ((zZ w4 _ _).2.2.mono M.o.size)) M.o.size _) (by have:=M.o.size;omega) _;have U:=yK A6;clear A6 X A7;revert B9 U;change _->_->Code.wp _ _ _ _ ((((w4.alloc (.cells #[.int .i64 0,.int .i64 0] 135)).alloc (.cells (hsVals zeroS).toArray 108)).setRow w4.heap.size G).setRow (w4.heap.size+1) x);generalize ((((w4.alloc (.cells #[.int .i64 0,.int .i64 0] 135)).alloc (.cells (hsVals zeroS).toArray 108)).setRow w4.heap.size G).setRow (w4.heap.size+1) x)=w5;intro hF U;have f0:∀ d:SubW w5,d.1.cell? ⟨w4.heap.size,0,none⟩=some (.int .i64 n):=λ d=>by rw[<- y.o]at hF;simp[World.cell?,d.block hF]
  have f1:∀ d:SubW w5,d.1.cell? ⟨w4.heap.size,1,none⟩=some (.int .i64 i):=λ d=>by rw[<- y.o]at hF;simp[World.cell?,d.block hF]
  clear hF V R B4 D T A2;refine zg 7 (by kernel_rfl) (by kernel_rfl) ?_;simp only[yh,yj,yi,yl]
  repeat(go_big_quiet_step (fail))
  refine wpQuiet_nil ?_;intro dq;have a:=U.o.tm dq.2;clear f0 f1;revert a;generalize dq.1=w6;intro a;go_wp2_with fail;refine Yb (ir rfl _ _ _ _ _ rfl rfl rfl) rfl ?_;exact⟨n,i,0,rfl,a,λ h=>kV I.o h,λ _ h=>kV h (by have:=N.o;omega),λ _ _=>⟨B7.o,rfl⟩⟩
theorem vZ (n i:Nat) (W:World):(Op.equalIn 10000 135 (.agg #[.int .i64 n,.int .i64 i]) (.agg #[.int .i64 0,.int .i64 0])).run Tryz.prog W=.ok (decide ((n,i)=(0,0))) W:=by
 rw[run_equalIn_agg W 9999 135 _ _ (by kernel_rfl) (by kernel_rfl)];by_cases h1:n=0 <;> by_cases h2:i=0 <;> simp[go_sem,h1,h2]
theorem BdAt.row {W W':World} {bb b0 base:Nat} {bv:BV} {t:Tk} {L:List E} {ps:List (List HP)} {bel:W3} {vg vk vc vf vb:Value} (h:BdAt W bb bv t L ps bel) (ho:BvOwn W base bv vg vk vc vf vb ps) (hbb:base<=bb) (hb0:b0<base)
  (e:∀ k,k≠b0->W'.heap[k]?=W.heap[k]?) (hg:HasQ W' vg t.ground) (hk:HasQQ W' vk t.kinds) (hc:RI.Has W' vc t.counts) (hf:RL.Has W' vf t.fixed) (hb:∃ js,RE.Has W' vb js):BdAt W' bb bv t L ps bel:=by
 have A:OwnPP W' base bv.pv bv.pvs ps:=⟨zk ho.pp.own λ k hk=>e k (by have:=(qg ho.pp.own hk).1;omega),ho.pp.len,λ i u l hu hl=>zk (ho.pp.each i u l hu hl) λ k hk=>e k (by have:=(qg (ho.pp.each i u l hu hl) hk).1;omega),ho.pp.apart⟩;refine⟨(e bb (by omega)).trans h.blk,by rw[ho.g];exact hg,by rw[ho.k];exact hk,by rw[ho.c];exact hc,by rw[ho.f];exact hf,by rw[ho.b];exact hb,?_,?_,A.has,h.cflat⟩
 ·exact(e _ (by have:=ho.qm;omega)).trans h.quarter
 ·exact(e _ (by have:=ho.em;omega)).trans h.edge
def zcD (t:Tk) (l:List Ld) (vb:Value) (w:World) (e:Ending) (w':World):Prop:=Bw w w' /\
 ((∃ code:Nat,e=.returned (.tuple #[.pointer none,.agg (hsVals zeroS).toArray,.int .i64 code])/\((¬ OkT t/\code=2)\/(OkT t/\16<l.length/\code=5)\/(OkT t/\l.length<=16/\coversT t l≠(0,0)/\code=9))) \/
  (∃ (bb:Nat) (bv:BV) (L:List E) (S:HS),e=.returned (.tuple #[.pointer (some ⟨bb,0,none⟩),.agg (hsVals S).toArray,.int .i64 0])/\OkT t/\l.length<=16/\coversT t l=(0,0)/\BdAt w' bb bv t L (pcsT t L) (belT t L)/\LOk t.ground L/\StT t.ground L (parts t l) S/\RP.Own w' (w.heap.size+2) S.laid ((parts t l).map (hpT t.ground L))/\bv.b=vb))
theorem jo {t:Tk} (w:World) (vg vk vc vf vb v:Value) (hg:HasQ w vg t.ground) (hk:HasQQ w vk t.kinds) (hc:RI.Has w vc t.counts) (hcf:flatV vc) (hf:RL.Has w vf t.fixed) (hb:RE.Has w vb t.below) (hcl:t.counts.length<=1000) (hbl:t.below.length<=1000000) (htb:TbAt w) (l:List Ld) (hll:l.length<=1000000) (hv:RL.Has w v l) :
  Calls Tryz.prog 54 #[.agg #[vg,vk,vc,vf,vb],v] w (zcD t l vb w):=by
 obtain⟨g,s,rfl⟩:=hg.slice;obtain⟨f,q,rfl⟩:=hk.slice;obtain⟨m,r,rfl⟩:=hc.slice;obtain⟨c,p,rfl⟩:=hf.slice;obtain⟨M,V,rfl⟩:=hb.slice;obtain⟨vp,vq,rfl⟩:=hv.slice;have D5:∀ W,Bw w W->Calls Tryz.prog 13 #[.agg (tA t g s f q m r c p M V)] W (CkPost t W) :=
  λ W h=>bE W _ _ _ _ _ (hg.below h) (hk.below h) (hc.below h) (hf.below h) (hb.below h) hcl hbl
 have D6:OkT t->∀ W,Bw w W->Calls Tryz.prog 37 #[.agg (tA t g s f q m r c p M V)] W λ e w'=>∃ (O:Nat) (U:BV) (L:List E),e=.returned (.pointer (some ⟨O,0,none⟩))/\W.heap.size<=O/\BdAt w' O U t L (pcsT t L) (belT t L)/\LOk t.ground L/\Bw W w'/\BvOwn w' W.heap.size U (.slice g t.ground.length s) (.slice f t.kinds.length q) (.slice m t.counts.length r) (.slice c t.fixed.length p) (.slice M t.below.length V) (pcsT t L) :=
  λ ho W h=>eu ho W _ _ _ _ _ (hg.below h) (hk.below h) (hc.below h) hcf (hf.below h) (hb.below h)
 have E3:∀ W O U L,OkT t->l.length<=16->Bw w W->LOk t.ground L->BdAt W O U t L (pcsT t L) (belT t L)->U.b=.slice M t.below.length V->Calls Tryz.prog 59 #[.pointer (some ⟨O,0,none⟩),.slice vp l.length vq] W (CovPost t t.below L l W) :=
  λ W O U L ho h16 h hl X Z=>jB ho hl W O U X (htb.below h) l h16 _ (hv.below h) (by rw[Z];exact hb.below h)
 have E6:Hid (∀ W,Bw w W->HasQ W (.slice g t.ground.length s) t.ground/\HasQQ W (.slice f t.kinds.length q) t.kinds/\RI.Has W (.slice m t.counts.length r) t.counts/\RL.Has W (.slice c t.fixed.length p) t.fixed/\RE.Has W (.slice M t.below.length V) t.below):=yK λ W h=>⟨hg.below h,hk.below h,hc.below h,hf.below h,hb.below h⟩;have C2:=yK D5;clear D5;have D4:=yK D6;clear D6;have D8:=yK E3;clear E3 hg hk hc hf htb hcf hv hb;go_enter func54,ntmps54;go_wp2_with fail;obtain⟨hT,hZ,hB⟩:=zZ w (.cells (tA t g s f q m r c p M V) 34) (.cells (hsVals zeroS).toArray 108);have x:((w.alloc (.cells (tA t g s f q m r c p M V) 34)).alloc (.cells (hsVals zeroS).toArray 108)).heap.size=w.heap.size+2:=by rw[yp,yp]
 revert hT hZ hB x;change _->_->_->_->Calls _ _ _ ((w.alloc (.cells (tA t g s f q m r c p M V) 34)).alloc (.cells (hsVals zeroS).toArray 108)) _;generalize (w.alloc (.cells (tA t g s f q m r c p M V) 34)).alloc (.cells (hsVals zeroS).toArray 108)=w1;intro hT hZ hB x;have C6:=(ya.1 hZ).1;have HB:=yK hB;clear hB;have C3:=(ya.1 hT).1;refine(C2.o w1 HB.o).mono ?_;rintro e w2 ⟨F8,rfl,h0,h2,Y⟩;have B7:=(Y.block _ C3).trans hT;have G:=(Y.block _ C6).trans hZ;have B0:=(ya.1 G).1;have A4:w.heap.size+2<=w2.heap.size:=by rw[<- x];exact Y.size
 have D2:=yK A4;clear A4 x;have z:=yK (HB.o.tm Y);clear Y HB C3;have B:(Tryz.prog.info? 108).map (·.size)=some (hsVals zeroS).toArray.size:=sizeS;have F:(hsVals zeroS).toArray.all (·.oneCell')=true:=by simp[hsVals,zeroS,Value.oneCell']
 rcases h2 with rfl|rfl
 case inr =>
  have F4:Hid (¬ OkT t):=yK λ h=>kV (h0.2 h) (by decide);clear h0 B7 hT;go_wp2_with (refine cz rfl 108 _ _ rfl (w.heap.size+1) rfl 108 (hsVals zeroS).toArray rfl G B F ?_);refine Yb (dh rfl underlying108 rfl _ _ (w.heap.size+1) (hsVals zeroS).toArray (0,0) _ _ G B rfl rfl rfl) rfl ?_;exact⟨z.o,.inl ⟨2,rfl,.inl ⟨F4.o,rfl⟩⟩⟩
 case inl =>
  have N:Hid (OkT t):=yK (h0.1 rfl);have A:∀ j,w2.cell? ⟨w.heap.size,j,none⟩=(#[.slice g t.ground.length s,.slice f t.kinds.length q,.slice m t.counts.length r,.slice c t.fixed.length p,.slice M t.below.length V]:Array Value)[j]?:=λ j=>by simp only[World.cell?,B7];simp
  have c0:=A 0;have c1:=A 1;have c2:=A 2;have c3:=A 3;have c4:=A 4;simp at c0 c1 c2 c3 c4;clear A hT C2 B7 h0 hZ C6;have HL:=yK (D4.o N.o w2 z.o);clear D4;by_cases h16:l.length<=16
  case neg =>
   have E7:decide ((16:Int)<(l.length:Int))=true:=yw (by omega);clear c0 c1 c2 c3 c4;have a:=yK h16;clear h16;go_wp2_with (refine cz rfl 108 _ _ rfl (w.heap.size+1) rfl 108 (hsVals zeroS).toArray rfl G B F ?_);refine Yb (dh rfl underlying108 rfl _ _ (w.heap.size+1) (hsVals zeroS).toArray (0,0) _ _ G B rfl rfl rfl) rfl ?_;exact⟨z.o,.inl ⟨5,rfl,.inr (.inl ⟨N.o,by have:=a.o;omega,rfl⟩)⟩⟩
  have E7:decide ((16:Int)<(l.length:Int))=false:=yv (by omega);have a:=yK h16;clear h16;go_wp2_with fail;refine HL.o.mono ?_;rintro e w3 ⟨O,U,L,rfl,C9,X,K,y,Z⟩;have C1:=(y.block _ B0).trans G;have A9:=(ya.1 C1).1;have D1:=yK (z.o.tm y);have D9:w.heap.size+2<=w3.heap.size:=yJ D2.o y.size;clear y HL;have D3:=yK (D8.o w3 O U L N.o a.o D1.o K X Z.b);have B9:=yK (YP X Z);have E0:=yK (YP C9 D9);clear C9 D9;have F2:=yK K;clear K;clear D8 X c0 c1 c2 c3 c4 Z;go_wp2_with fail;refine D3.o.mono ?_;rintro e w4 ⟨n,i,cS,rfl,D0,A0,C7,A6,A5⟩;have B4:=yK D0;clear D0;have B2:=yK A5;clear A5;have B3:=(A0.block _ A9).trans C1;have C8:=(ya.1 B3).1;have B1:=yK A0;have F7:=yK (D1.o.tm A0);clear A0 D3 B0 A9 G C1;have A3:(Tryz.prog.info? 108).map (·.size)=some cS.size:=by rw[<- C7];exact sizeS
  obtain⟨D,J⟩:∃ D:Array Value,#[.int .i64 n,.int .i64 i]=D:=⟨_,rfl⟩;have R:(Tryz.prog.info? 135).map (·.size)=some D.size:=by rw[<- J];kernel_rfl
  have D7:D.all (·.oneCell')=true:=by rw[<- J];simp[Value.oneCell']
  have E8:(#[.int .i64 0,.int .i64 0]:Array Value).size=D.size:=by rw[<- J];rfl
  have A2:∀ W,(Op.equalIn 10000 135 (.agg D) (.agg #[.int .i64 0,.int .i64 0])).run Tryz.prog W=.ok (decide ((n,i)=(0,0))) W:=λ W=>by rw[<- J];exact vZ n i W
  rw[J];clear J;have B6:=(zZ w4 (.cells #[.int .i64 0,.int .i64 0] 135) (.cells (hsVals zeroS).toArray 108)).1;have B8:=(setRow_other ((w4.alloc (.cells #[.int .i64 0,.int .i64 0] 135)).alloc (.cells (hsVals zeroS).toArray 108)) w4.heap.size (w4.heap.size+1) D (by omega)).trans (zZ w4 (.cells #[.int .i64 0,.int .i64 0] 135) (.cells (hsVals zeroS).toArray 108)).2.1;go_upto_region 8 with(first
   | (refine wpList_store_row rfl 135 _ _ rfl w4.heap.size rfl 135 _ D rfl B6 R E8 D7 ?_)
   | (refine wpList_store_row rfl 108 _ _ rfl (w4.heap.size+1) rfl 108 _ cS rfl B8 A3 C7 A6 ?_))
  simp only[Act.put];have F1:((((w4.alloc (.cells #[.int .i64 0,.int .i64 0] 135)).alloc (.cells (hsVals zeroS).toArray 108)).setRow w4.heap.size D).setRow (w4.heap.size+1) cS).heap[w4.heap.size]?=some (.cells D 135 (0,0)):=(setRow_other _ _ _ _ (by omega)).trans (setRow_heap _ _ _ _ _ _ B6);have F3:((((w4.alloc (.cells #[.int .i64 0,.int .i64 0] 135)).alloc (.cells (hsVals zeroS).toArray 108)).setRow w4.heap.size D).setRow (w4.heap.size+1) cS).heap[w4.heap.size+1]?=some (.cells cS 108 (0,0)):=setRow_heap _ _ _ _ _ _ B8;have B5:Bw w4 ((((w4.alloc (.cells #[.int .i64 0,.int .i64 0] 135)).alloc (.cells (hsVals zeroS).toArray 108)).setRow w4.heap.size D).setRow (w4.heap.size+1) cS):=zi (zi (zZ w4 _ _).2.2 (ye _) _) (by omega) _;have T:=(B5.block _ C8).trans B3;have C:=yK B5;clear B5 B6 B8 B3;revert F1 F3 C T;change _->_->_->_->Code.wp _ _ _ _ ((((w4.alloc (.cells #[.int .i64 0,.int .i64 0] 135)).alloc (.cells (hsVals zeroS).toArray 108)).setRow w4.heap.size D).setRow (w4.heap.size+1) cS);generalize ((((w4.alloc (.cells #[.int .i64 0,.int .i64 0] 135)).alloc (.cells (hsVals zeroS).toArray 108)).setRow w4.heap.size D).setRow (w4.heap.size+1) cS)=w5;intro hF hS T C;have C5:=yK (F7.o.tm C.o);by_cases hni:(n,i)=(0,0)
  case neg =>
   have hd:decide ((n,i)=(0,0))=false:=yv hni;rw[hd]at A2;have E9:Hid (coversT t l≠(0,0)):=yK (by rw[<- show withB t t.below=t from rfl,<- B4.o];exact hni);clear hni hd;go_wp2_with (first
    | (refine Ya rfl 135 _ rfl w4.heap.size rfl 135 D (0,0) _ hF underlying135 rfl R ?_)
    | (refine pL rfl 135 _ _ _ rfl rfl rfl (by kernel_rfl) (A2 _) ?_)
    | (refine cz rfl 108 _ _ rfl (w.heap.size+1) rfl 108 (hsVals zeroS).toArray rfl T B F ?_))
   refine Yb (dh rfl underlying108 rfl _ _ (w.heap.size+1) (hsVals zeroS).toArray (0,0) _ _ T B rfl rfl rfl) rfl ?_;exact⟨C5.o,.inl ⟨9,rfl,.inr (.inr ⟨N.o,a.o,E9.o,rfl⟩)⟩⟩
  have hd:decide ((n,i)=(0,0))=true:=yw hni;rw[hd]at A2;obtain⟨rfl,rfl⟩:=Prod.mk.inj hni;obtain⟨S,F0,E2,A7⟩:=B2.o rfl;have E5:Hid (coversT t l=(0,0)):=yK B4.o.symm;have F6:=yK E2;clear E2;have E1:=yK (qf (qP A7 E0.o.2) C.o);clear A7;clear hni hd B2 B4;subst F0;go_upto_region 10 with(first
   | (refine Ya rfl 135 _ rfl w4.heap.size rfl 135 D (0,0) _ hF underlying135 rfl R ?_)
   | (refine pL rfl 135 _ _ _ rfl rfl rfl (by kernel_rfl) (A2 _) ?_))
  have E4:∀ d:SubW w5,(Instr.loadAt 108 (.pointer (some ⟨w4.heap.size+1,0,none⟩))).run Tryz.prog d.1=.ok (.agg (hsVals S).toArray) d.1:=λ d=>by
   have:=run_loadVar_row (P:=Tryz.prog) d.1 (w4.heap.size+1) 108 108 (hsVals S).toArray (0,0) _ (d.block hS) underlying108 rfl A3;simp only[Instr.loadAt,Instr.sureAddr,yG,yH,yz,this]
  simp only[Act.put,yr,yF,yE,Bool.not_true];refine zg 3 (by kernel_rfl) (by kernel_rfl) ?_;simp only[yh,yj,yi,yl]
  repeat(first|((go_big_quiet_want;refine zx 108 _ rfl rfl (by rintro w ⟨d,rfl⟩;exact E4 d) ?_;simp only[Act.put,yr,yF,yE];go_big_quiet_on))|go_big_quiet_step (fail))
  refine wpQuiet_nil ?_;intro dq;have A1:=dq.block T;have C0:=C5.o.tm dq.2;have H:=yK (qf E1.o dq.2);have I:=yK ((B1.o.tm C.o).trans (dq.2.mono (yJ B1.o.size C.o.size)));clear E4 hF hS E1;revert A1 C0 H I;generalize dq.1=w6;intro A1 C0 H I;go_wp2_with (refine wpList_store_row rfl 108 _ _ rfl (w.heap.size+1) rfl 108 _ (hsVals S).toArray rfl A1 A3 rfl A6 ?_);refine Yb (dh rfl underlying108 rfl _ _ (w.heap.size+1) (hsVals S).toArray (0,0) _ _ (setRow_heap _ _ _ _ _ _ A1) A3 rfl rfl rfl) rfl ?_;have C4:Bw w (w6.setRow (w.heap.size+1) (hsVals S).toArray):=zi C0 (YE _) _;obtain⟨a1,a2,a3,a4,a5⟩:=E6.o _ C4;have F5:BvOwn w6 w2.heap.size U (.slice g t.ground.length s) (.slice f t.kinds.length q) (.slice m t.counts.length r) (.slice c t.fixed.length p) (.slice M t.below.length V) (pcsT t L):=by
   obtain⟨b1,b2,b3,b4,b5,b6,b7,b8⟩:=B9.o.2;exact⟨b1,b2,b3,b4,b5,b6,b7,b8.below I.o⟩
  have A8:∀ k,k≠w.heap.size+1->(w6.setRow (w.heap.size+1) (hsVals S).toArray).heap[k]?=w6.heap[k]?:=λ k hk=>setRow_other _ _ _ _ hk;refine⟨C4,.inr ⟨O,U,L,S,rfl,N.o,a.o,E5.o,(B9.o.1.keep I.o).row F5 E0.o.1 (by have:=D2.o;omega) A8 a1 a2 a3 a4 ⟨_,a5⟩,F2.o,F6.o,zk H.o (λ k hk=>A8 k (by have:=(qg H.o hk).1;omega)),B9.o.2.b⟩⟩
