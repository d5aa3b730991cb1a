/- Plain maths of chapter 7: what Verify finds in a plan of layers. -/
import Derived.Test.YtiinlplgloaanaaGreatDoorZzLayerOver42
set_option linter.all false
set_option maxRecDepth 100000
set_option maxHeartbeats 8000000
namespace Go.Proofs.YtiinlplgloaanaaGreatDoor
open Go.Proofs.Tryz Go.RowKit
attribute [local go_sem] Oper.semAt_some
theorem qer (ax ay ak bx b_y bk:Int) (w:World) :
  Calls Tryz.prog 45 #[.agg #[.int .i64 ax,.int .i64 ay,.int .i64 ak],.agg #[.int .i64 bx,.int .i64 b_y,.int .i64 bk]] w λ e w' =>
   e=.returned (.int .i64 (orL [cmpI ay b_y,cmpI ax bx,cmpI ak bk]))/\Grew w w':=by
 go_enter func45,ntmps45;go_wp2;go_region_held3 (λ w'=>w'.cell? ⟨w.heap.size,0,none⟩=some (.int .i64 ax)/\w'.cell? ⟨w.heap.size,1,none⟩=some (.int .i64 ay)/\w'.cell? ⟨w.heap.size,2,none⟩=some (.int .i64 ak) /\
   w'.cell? ⟨w.heap.size+1,0,none⟩=some (.int .i64 bx)/\w'.cell? ⟨w.heap.size+1,1,none⟩=some (.int .i64 b_y)/\w'.cell? ⟨w.heap.size+1,2,none⟩=some (.int .i64 bk)) (first|go_keep|simp)
  (first
   | (go_at_call 93;refine (zaN _ _ _).mono ?_;rintro e w' ⟨rfl,rfl⟩)
   | (go_at_call 99;refine Calls.mono (qcd (w.heap.size+1+1) 3 (cmpI ay b_y) (cmpI ax bx) (cmpI ak bk) _ ?_ ?_ ?_) ?_;go_simp;go_simp;go_simp;rintro e w' ⟨rfl,rfl⟩))
 go_wp2;go_ret;exact⟨rfl,((((Grew.refl w).alloc _).alloc _).alloc _).drew⟩
def AdjE (es:List E):Prop:=∀ (i:Nat) (a b:E),es[i]?=some a->es[i+1]?=some b->¬ ltE b a
def NeqE (es:List E):Prop:=∀ (i:Nat) (a b:E),es[i]?=some a->es[i+1]?=some b->b≠a
theorem zgL {W:World} {p:Option Addr} {n c:Nat} {es:List E} (h:RE.Has W (.slice p n c) es) {j:Nat} {e:E} (he:es[j]?=some e):∃ a,p=some a/\a.block<W.heap.size/\∀ d:SubW W,d.1.cell? (a.add (j*3))=some (.int .i64 e.x)/\d.1.cell? { block:=(a.add (j*3)).block,off:=(a.add (j*3)).off+1 }=some (.int .i64 e.y)/\d.1.cell? { block:=(a.add (j*3)).block,off:=(a.add (j*3)).off+2 }=some (.int .i64 e.k):=by
 obtain⟨a,rfl,hlt,_⟩:=qej h he;refine⟨a,rfl,hlt,λ d=>?_⟩;obtain⟨a',e',_,h1,h2,h3⟩:=qej (h.below d.2) he
 cases e'
 exact⟨h1,h2,h3⟩
theorem zcP (es:List E) (v:Value) (w:World) (h:RE.Has w v es) (hl:es.length<=1000000) :
  Calls Tryz.prog 44 #[v,.func (.func 45) #[] #[]] w λ e w'=>∃ r:Bool,e=.returned (.bool r)/\(r=true↔AdjE es)/\Bw w w':=by
 obtain⟨p,c,rfl⟩:=h.slice;have HV:=yK h;clear h;go_enter func44,ntmps44;go_wp2_with fail;go_loopw [5] (λ z wr=>∃ n:Nat,n<=es.length/\z=.int .i64 ((n:Int)-1)/\Hid (Bw w wr/\∀ (i:Nat) (a b:E),n<=i+1->es[i]?=some a->es[i+1]?=some b->¬ ltE b a)) (λ z _=>(intOf z).toNat)
 case atStart=>exact⟨es.length,ye _,rfl,yK ⟨yf _ _,λ i a b hi _ h2=>by have:=(yc.1 h2).1;omega⟩⟩
 case round =>
  obtain⟨n,hn,rfl,HR⟩:=hrel;by_cases h2:2<=n
  ·obtain⟨m,rfl⟩:∃ m,n=m+2:=⟨n-2,by omega⟩;rw[show (((m+2:Nat):Int)-1)=(m:Int)+1 by omega];obtain⟨b,hb⟩:∃ b,es[m+1]?=some b:=⟨_,yb (by omega)⟩;obtain⟨a,ha⟩:∃ a,es[m]?=some a:=⟨_,yb (by omega)⟩;obtain⟨ad,rfl,_,A⟩:=zgL (HV.o.below HR.o.1) hb;obtain⟨J,e',_,B⟩:=zgL (HV.o.below HR.o.1) ha
   cases e'
   have HA:=yK ha;clear ha;have F:=yK hb;clear hb;have HC:Hid (∀ d:SubW wr,Calls Tryz.prog 45 #[.agg #[.int .i64 b.x,.int .i64 b.y,.int .i64 b.k],.agg #[.int .i64 a.x,.int .i64 a.y,.int .i64 a.k]] d.1 λ e w'=>e=.returned (.int .i64 (cmpE b a))/\∃ d':SubW wr,w'=d'.1):=yK λ d=>by
    refine (qer b.x b.y b.k a.x a.y a.k d.1).mono ?_;rintro e w' ⟨rfl,hg⟩;exact⟨rfl,⟨w',d.2.tm hg.below⟩,rfl⟩
   have C:Hid (cmpE b a<0↔ltE b a):=yK qas;have b0:=λ d=>(A d).1;have b1:=λ d=>(A d).2.1;have b2:=λ d=>(A d).2.2;have a0:=λ d=>(B d).1;have a1:=λ d=>(B d).2.1;have a2:=λ d=>(B d).2.2;clear A B;obtain⟨bx,G,bk⟩:=b;obtain⟨ax,D,ak⟩:=a;simp only at b0 b1 b2 a0 a1 a2;generalize H:cmpE ⟨bx,G,bk⟩ ⟨ax,D,ak⟩=cm at HC C;clear H;have e1:decide ((0:Int)<(m:Int)+1)=true:=yw (by omega);have i1:(0:Int)<=(m:Int)+1:=(by omega);have i2:(m:Int)+1<(es.length:Int):=(by omega);have i3:(m:Int)<(es.length:Int):=(by omega);have w1:IntKind.i64.wrap (m:Int)=m:=(by rw[IntKind.wrap_i64];omega);have t1:((m:Int)+1).toNat=m+1:=(by omega);by_cases hlt:ltE ⟨bx,G,bk⟩ ⟨ax,D,ak⟩
   ·have hd:decide (cm<0)=true:=yw (C.o.2 hlt);go_upto_region 4 with fail;refine zg 12 (by kernel_rfl) (by kernel_rfl) ?_;simp only[yh,yj,yi,yl]
    repeat (go_big_quiet_step ((exact HC.o _)))
    refine wpQuiet_nil ?_;intro dq;have hB:=HR.o.1.tm dq.2;clear b0 b1 b2 a0 a1 a2 HC;go_wp2_with fail;go_ret;exact⟨false,rfl,⟨λ h=>(by cases h),λ h=>absurd hlt (h m _ _ HA.o F.o)⟩,hB⟩
   have hd:decide (cm<0)=false:=yv λ hc=>hlt (C.o.1 hc);go_upto_region 4 with fail;refine zg 12 (by kernel_rfl) (by kernel_rfl) ?_;simp only[yh,yj,yi,yl]
   repeat (go_big_quiet_step ((exact HC.o _)))
   refine wpQuiet_nil ?_;intro dq;have hB:=HR.o.1.tm dq.2;clear b0 b1 b2 a0 a1 a2 HC;have I:Hid (Bw w dq.1/\∀ (i:Nat) (a b:E),m+1<=i+1->es[i]?=some a->es[i+1]?=some b->¬ ltE b a):=yK ⟨hB,λ i a b hi h1 h3=>by
    rcases (by omega:i=m\/m+2<=i+1)with rfl|h
    ·rw[HA.o]at h1;rw[F.o]at h3;cases h1;cases h3;exact hlt
    exact HR.o.2 i a b h h1 h3⟩
   clear hB HR;go_wp2_with fail
   go_roundw
   case rel=>exact⟨m+1,by omega,by go_num,I⟩
   case measure=>first|(simp[intOf];done)|(simp[intOf];omega)
  have hd:decide ((0:Int)<(n:Int)-1)=false:=yv (by omega);go_wp2_with fail;go_ret;exact⟨true,rfl,⟨λ _ i a b h1 h3=>HR.o.2 i a b (by omega) h1 h3,λ _=>rfl⟩,HR.o.1⟩
theorem qci {α:Type} {R:REnc α} (hn:0<R.n) {W:World} {a:Addr} {l:List α} (h:R.At W a l):∀ (j:Nat) (u:Value),(R.cells l)[j]?=some u->W.cell? (a.add j)=some u:=by
 intro j u hu;have hj:j<l.length*R.n:=by rw[<- R.cells_length];exact (yc.1 hu).1
 have hd:j / R.n<l.length:=by rw[Nat.div_lt_iff_lt_mul hn];exact hj
 have e:j / R.n*R.n+j % R.n=j:=by rw[Nat.mul_comm];exact Nat.div_add_mod j R.n
 have hg:=R.cells_get (yb hd) (j % R.n) (Nat.mod_lt _ hn);rw[e,hu]at hg;have:=h.at_ (j / R.n) _ (yb hd) (j % R.n) u hg.symm;rwa [e]at this
theorem qfQ (es:List E) (v:Value) (w:World) (h:RE.Has w v es) (hl:es.length<=1000000) :
  Calls Tryz.prog 47 #[v] w λ e w'=>∃ u,e=.returned u/\OwnEd w' w.heap.size u es/\Bw w w':=by
 rcases h with⟨rfl,rfl⟩|⟨a,cap,rfl,hlc,hcm,hat⟩
 case inl =>
  go_enter func47,ntmps47;have he:(binOp .eql 32 (.slice none 0 0) (.slice none 0 0)).run Tryz.prog w=.ok (.bool true) w:=by kernel_rfl
  go_wp2_with fail;go_ret;exact⟨_,rfl,World.ownsRow_nil _ w.heap.size 61 3,yf _ _⟩
 case inr =>
  go_enter func47,ntmps47;have he:(binOp .eql 32 (.slice (some a) es.length cap) (.slice none 0 0)).run Tryz.prog w=.ok (.bool false) w:=by kernel_rfl
  have D:Bw w (w.alloc (.cells #[] 61)):=(yf _ w).alloc (ye _) _;have B:(w.alloc (.cells #[] 61)).ownsRow w.heap.size 61 3 (.slice (some ⟨w.heap.size,0,none⟩) 0 0) 0 []:=⟨rfl,.inr ⟨w.heap.size,0,#[],rfl,ye _,yd w _,ye _,by decide,rfl,rfl⟩⟩;have A:∀ (j:Nat) (u:Value),(eCells es)[j]?=some u->(w.alloc (.cells #[] 61)).cell? (a.add j)=some u:=qci (by decide) (hat.below D);have C:∀ u∈eCells es,u.oneCell'=true:=λ u hu=>by
   obtain⟨q,_,hq⟩:=List.mem_flatMap.1 hu;exact qbl q u hq
  have K:Hid (0+es.length<=maxLen):=yK (by simp only[maxLen];omega);have J:Hid ((0+es.length)*24<=140737488355328):=yK (by omega);obtain⟨iE,I,H,F,G⟩:=info_parts infoE;go_wp2_with (first
   | (at_builtin;refine wpList_append_own _ rfl _ _ 32 rfl w.heap.size 61 iE _ 3 24 underlying32 I H F G rfl (by decide) (.slice (some ⟨w.heap.size,0,none⟩) 0 0) 0 [] rfl B a es.length cap (eCells es) rfl (zeh es) A C K.o J.o (by rw[yp];omega) ?_;intro v' w2 hown' hgrow _;obtain⟨M,L,rfl⟩:=zf hown'))
  go_ret;refine⟨_,rfl,?_,D.grown hgrow (by rw[yp];omega) (λ k hk=>(B.lt k hk).1)⟩;simpa using hown'
theorem qdT (a b:E) (W:World):(Op.equalIn 10000 61 (.agg #[.int .i64 a.x,.int .i64 a.y,.int .i64 a.k]) (.agg #[.int .i64 b.x,.int .i64 b.y,.int .i64 b.k])).run Tryz.prog W=.ok (decide (a=b)) W:=by
 rw[run_equalIn_agg W 9999 61 _ _ (by kernel_rfl) (by kernel_rfl)];obtain⟨ax,ay,ak⟩:=a;obtain⟨bx,b_y,bk⟩:=b;simp only[E.mk.injEq];by_cases h1:ax=bx <;> by_cases h2:ay=b_y <;> by_cases h3:ak=bk <;> simp[go_sem,h1,h2,h3]
def IntRow (W:World) (base g n cap:Nat):Prop:=∃ xs:List Value,W.ownsRow base 61 3 (.slice (some ⟨g,0,none⟩) n cap) n xs/\∀ u∈xs,∃ z:Int,u=.int .i64 z
theorem IntRow.of {W:World} {base g cap:Nat} {es:List E} (h:OwnEd W base (.slice (some ⟨g,0,none⟩) es.length cap) es):IntRow W base g es.length cap :=
 ⟨eCells es,h,λ u hu=>by
  obtain⟨e,_,he⟩:=List.mem_flatMap.1 hu;simp only[eVals,Ye,List.not_mem_nil,or_false]at he;rcases he with rfl|rfl|rfl <;> exact⟨_,rfl⟩⟩
theorem IntRow.cell {W:World} {base g n cap:Nat} (h:IntRow W base g n cap) {j:Nat} (hj:j<n*3):∃ z:Int,W.cell? ⟨g,j,none⟩=some (.int .i64 z):=by
 obtain⟨xs,h1,h2⟩:=h;have hl:j<xs.length:=by rw[h1.1];exact hj
 obtain⟨z,hz⟩:=h2 _ (List.getElem_mem hl);have:=World.ownsRow.cells h1 (g:=g) rfl j _ (yb hl);rw[zJ,hz]at this;exact⟨z,this⟩
theorem IntRow.frozen {W:World} {base g n cap:Nat} (h:IntRow W base g n cap) (j:Nat):W.frozen? ⟨g,j,none⟩=false:=by
 obtain⟨xs,h1,_⟩:=h;exact World.ownsRow.frozenAt h1 j
theorem IntRow.store {W:World} {base g n cap:Nat} (h:IntRow W base g n cap) (j:Nat) (z:Int):IntRow (W.setCell ⟨g,j,none⟩ (.int .i64 z)) base g n cap:=by
 obtain⟨xs,h1,h2⟩:=h;refine⟨_,(World.ownsRow.stored h1 j (.int .i64 z)).1,λ u hu=>?_⟩;rcases List.mem_or_eq_of_mem_set hu with hu|rfl
 ·exact h2 u hu
 exact⟨z,rfl⟩
theorem IntRow.below {W W':World} {base g n cap:Nat} (h:IntRow W base g n cap) (e:Bw W W'):IntRow W' base g n cap:=by
 obtain⟨xs,h1,h2⟩:=h;exact⟨xs,qf h1 e,h2⟩
theorem IntRow.ge {W:World} {base g n cap:Nat} (h:IntRow W base g n cap):base<=g/\n<=cap:=by
 obtain⟨xs,h1,_⟩:=h;refine⟨(qg h1 rfl).1,?_⟩;rcases h1.2 with⟨h0,_⟩|⟨gg,cap',cur,hvv,_,_,h3,_⟩
 ·cases h0
 simp only[yC]at hvv;obtain⟨_,_,rfl⟩:=hvv;exact h3
theorem zbY {w:World} {base:Nat} {g:Nat} (hg:base<=g):∀ (us:List Value) (j:Nat) (W:World),Below base w W->Below base w (W.setCells g j us)
 | [],_,_,h=>h
 | u :: us,j,W,h=>zbY hg us (j+1) _ (h.setCell (p:=⟨g,j,none⟩) hg u)
theorem qfI {w W:World} {B A:Nat} (h:Below B w W) (hA:B<=A) (a b c:Nat) (x y z:Value):Below B w (((W.setCell ⟨A,a,none⟩ x).setCell ⟨A,b,none⟩ y).setCell ⟨A,c,none⟩ z) :=
 ((h.setCell (p:=⟨A,a,none⟩) hA x).setCell (p:=⟨A,b,none⟩) hA y).setCell (p:=⟨A,c,none⟩) hA z
theorem zfz {W:World} {base g n cap:Nat} (h:IntRow W base g n cap) (k m c:Nat) (hk:k+m<=n) (hm:0<m) :
  ∃ W',(∀ ty,(Builtin.clear_ #[32] ty #[.slice (some ⟨g,k*3,none⟩) m c]).run Tryz.prog W=.ok (.tuple #[]) W')/\∀ w,Below base w W->Below base w W':=by
 have hv:∀ w,(zeroValue 61).run Tryz.prog w=.ok (.agg #[.int .i64 0,.int .i64 0,.int .i64 0]) w:=λ w=>by kernel_rfl
 have A:(Builtin.zeroCells (Value.agg #[.int .i64 0,.int .i64 0,.int .i64 0]).cells m).toList.length=m*3:=by simp[Builtin.zeroCells,Value.cells]
 have B:∀ v∈(Builtin.zeroCells (Value.agg #[.int .i64 0,.int .i64 0,.int .i64 0]).cells m).toList,v=.int .i64 0:=λ v hv=>by
  simp only[Builtin.zeroCells,Value.cells,Array.toList_map,yP]at hv;obtain⟨i,_,rfl⟩:=hv;have h3:i % 3<3:=Nat.mod_lt _ (by decide);show (#[Value.int .i64 0,.int .i64 0,.int .i64 0]:Array Value)[i % 3]! =_;rcases (by omega:i % 3=0\/i % 3=1\/i % 3=2)with h|h|h <;> rw[h] <;> rfl
 have C:=run_storeCells_cells (P:=Tryz.prog) g (k*3) (Builtin.zeroCells (Value.agg #[.int .i64 0,.int .i64 0,.int .i64 0]).cells m).toList 0 W
  (λ j hj=>by
   rw[A]at hj;obtain⟨z,hz⟩:=h.cell (j:=k*3+0+j) (by omega);rw[hz];rfl) (λ j _=>h.frozen _) (λ v hv=>by rw[B v hv];rfl)
 obtain⟨q,rfl⟩:∃ q,m=q+1:=⟨m-1,by omega⟩;refine⟨W.setCells g (k*3+0) (Builtin.zeroCells (Value.agg #[.int .i64 0,.int .i64 0,.int .i64 0]).cells (q+1)).toList,λ ty=>?_,λ w hb=>zbY h.ge.1 _ _ _ hb⟩;simp[Builtin.clear_,run_underlying underlying32,hv,C]
def CompPost (es:List E) (base:Nat) (w:World) (e:Ending) (w':World):Prop:=∃ (p:Option Addr) (n c:Nat),e=.returned (.slice p n c)/\(n=es.length↔NeqE es)/\n<=es.length/\Below base w w'
theorem zep (es:List E) (v:Value) (base:Nat) (w:World) (h:OwnEd w base v es) (hbw:base<=w.heap.size) (hl:es.length<=1000000) :
  Calls Tryz.prog 46 #[v] w (CompPost es base w):=by
 obtain⟨p,c,rfl⟩:=zf h;by_cases h2:es.length<2
 case pos =>
  have Z:decide ((es.length:Int)<2)=true:=yw (by omega);go_enter func46,ntmps46;go_wp2_with fail;go_ret;exact⟨_,_,_,rfl,⟨λ _ i a b h1 h3=>by have:=(yc.1 h3).1;omega,λ _=>rfl⟩,ye _,yf _ _⟩
 case neg =>
  have Z:decide ((es.length:Int)<2)=false:=yv (by omega);obtain⟨g,rfl⟩:∃ g,p=some ⟨g,0,none⟩:=by
   rcases h.2 with⟨_,h0⟩|⟨gg,cap,cur,hvv,_⟩
   ·omega
   simp only[yC]at hvv;exact⟨gg,hvv.1⟩
  have HO:=yK h;clear h;have A4:=(IntRow.of HO.o).ge.2;go_enter func46,ntmps46;go_wp2_with fail;clear Z;go_loopw [3] (λ z wr=>∃ k:Nat,1<=k/\k<=es.length/\z=.int .i64 k/\Hid (Bw w wr/\∀ (i:Nat) (a b:E),i+1<k->es[i]?=some a->es[i+1]?=some b->b≠a)) (λ z _=>es.length-(intOf z).toNat)
  case atStart=>exact⟨1,by omega,by omega,rfl,yK ⟨yf _ _,λ i a b hi=>by omega⟩⟩
  obtain⟨k,B6,hk,rfl,HR⟩:=hrel;by_cases hlt:k<es.length
  case neg =>
   obtain rfl:k=es.length:=(by omega);go_wp2_with fail;go_ret;exact⟨_,_,_,rfl,⟨λ _ i a b h1 h3=>HR.o.2 i a b (by have:=(yc.1 h3).1;omega) h1 h3,λ _=>rfl⟩,ye _,HR.o.1.mono hbw⟩
  obtain⟨m,rfl⟩:∃ m,k=m+1:=⟨k-1,by omega⟩;obtain⟨b,hb⟩:∃ b,es[m+1]?=some b:=⟨_,yb hlt⟩;obtain⟨a,ha⟩:∃ a,es[m]?=some a:=⟨_,yb (by omega)⟩;have hO:=qf HO.o HR.o.1;obtain⟨b0,b1,b2⟩:=qbs hb;obtain⟨a0,a1,a2⟩:=qbs ha;have M:=World.ownsRow.cells hO (g:=g) rfl _ _ b0;have L:=World.ownsRow.cells hO (g:=g) rfl _ _ b1;have J:=World.ownsRow.cells hO (g:=g) rfl _ _ b2;have O:=World.ownsRow.cells hO (g:=g) rfl _ _ a0;have P:=World.ownsRow.cells hO (g:=g) rfl _ _ a1;have K:=World.ownsRow.cells hO (g:=g) rfl _ _ a2;rw[zJ]at M L J O P K;have A:=qdT b a;have l:IntKind.i64.wrap (((m+1:Nat):Int)-1)=m:=by rw[IntKind.wrap_i64];omega
  have i1:(m:Int)<(es.length:Int):=by omega
  have i2:(0:Int)<=(m:Int):=by omega
  have D:=yK (And.intro ha hb);clear hO b0 b1 b2 a0 a1 a2 ha hb;obtain⟨bx,T,bk⟩:=b;obtain⟨ax,S,ak⟩:=a;simp only at M L J O P K A;by_cases hba:(⟨bx,T,bk⟩:E)=⟨ax,S,ak⟩
  case neg =>
   have B:decide ((⟨bx,T,bk⟩:E)=⟨ax,S,ak⟩)=false:=yv hba;simp only[B]at A;go_upto_region 6 with fail;refine zt 10 (by kernel_rfl) (by kernel_rfl) ?_;simp only[yh,yj,yi,yl]
   repeat (go_big_quiet_step (fail))
   refine wpQuiet_nil ?_;intro nq;have HN:Hid (Bw w (wr.drewN nq)/\∀ (i:Nat) (a b:E),i+1<m+1+1->es[i]?=some a->es[i+1]?=some b->b≠a):=yK ⟨HR.o.1.trans ((below_drewN _ wr nq).mono HR.o.1.size),λ i a b hi h1 h3=>by
    rcases (by omega:i+1<m+1\/i=m)with h|rfl
    ·exact HR.o.2 i a b h h1 h3
    rw[D.o.1]at h1;rw[D.o.2]at h3;cases h1;cases h3;exact hba⟩
   clear M L J O P K A B HR D hba l;revert HN;generalize wr.drewN nq=wu;intro HN;clear nq;go_wp2_with fail
   go_roundw
   case rel=>exact⟨m+1+1,by omega,by omega,by go_num,HN⟩
   case measure=>simp[intOf];omega
  have B:decide ((⟨bx,T,bk⟩:E)=⟨ax,S,ak⟩)=true:=yw hba;simp only[B]at A;have Y:¬ NeqE es:=λ hn=>hn m _ _ D.o.1 D.o.2 hba;have A1:=yK Y;clear Y hba;obtain⟨ad,c9,R,d⟩:=zfA (g:=g) (k:=m+1) (n:=es.length) (cap:=c) (s:=3) (by omega) A4;obtain rfl:=d hlt;obtain⟨N,hN⟩:∃ N,es.length-(m+1)=N:=⟨_,rfl⟩;rw[hN]at R;have x:es.length=m+1+N:=by omega
  have H:=yK x;clear x;have V:=yK hN;clear hN;have A3:1<=N:=by have:=H.o;omega
  have B3:N<=1000000:=by have:=H.o;omega
  go_upto_region 6 with fail;refine zt 10 (by kernel_rfl) (by kernel_rfl) ?_;simp only[yh,yj,yi,yl]
  repeat (go_big_quiet_step (fail))
  refine wpQuiet_nil ?_;intro nq;have hI:=(IntRow.of HO.o).below (HR.o.1.trans ((below_drewN _ wr nq).mono HR.o.1.size));have HN:Hid (IntRow (wr.drewN nq) base g es.length c/\Below base w (wr.drewN nq)):=yK ⟨hI,(HR.o.1.trans ((below_drewN _ wr nq).mono HR.o.1.size)).mono hbw⟩;clear M L J O P K A B HR D l HO hI;revert HN;generalize wr.drewN nq=wu;intro HN;clear nq;go_wp2_with fail;clear R d;rw[V.o];go_loopw [3,5] (λ z y wq=>∃ k q:Nat,1<=q/\q<=N/\m+1<=k/\k<=m+q/\z=.int .i64 k/\y=.int .i64 q/\Hid (IntRow wq base g es.length c/\Below base w wq)) (λ _ y _=>N-(intOf y).toNat)
  case atStart=>exact⟨m+1,1,by omega,A3,by omega,by omega,rfl,rfl,HN⟩
  clear HN;obtain⟨k,q,B1,A9,B8,B5,rfl,rfl,HQ⟩:=hrel;by_cases hql:q<N
  case neg =>
   obtain rfl:q=N:=(by omega);have f:k<es.length:=(by have:=H.o;omega);obtain⟨W9,X,e⟩:=zfz HQ.o.1 k (es.length-k) (c-k) (by omega) (by omega);have A5:=yK (e w HQ.o.2);clear e HQ H V;have B2:k<=c:=(by omega);go_wp2_with fail;clear X;go_ret;exact⟨_,k,_,rfl,⟨λ hn=>absurd hn (by omega),λ hn=>absurd hn A1.o⟩,by omega,A5.o⟩
  obtain⟨r,rfl⟩:∃ r,q=r+1:=⟨q-1,by omega⟩;have A0:=H.o;obtain⟨x0,I⟩:=HQ.o.1.cell (j:=(m+1)*3+(r+1)*3) (by omega);obtain⟨x1,F⟩:=HQ.o.1.cell (j:=(m+1)*3+(r+1)*3+1) (by omega);obtain⟨x2,G⟩:=HQ.o.1.cell (j:=(m+1)*3+(r+1)*3+2) (by omega);obtain⟨y0,W⟩:=HQ.o.1.cell (j:=(m+1)*3+r*3) (by omega);obtain⟨y1,t⟩:=HQ.o.1.cell (j:=(m+1)*3+r*3+1) (by omega);obtain⟨y2,U⟩:=HQ.o.1.cell (j:=(m+1)*3+r*3+2) (by omega);have A:=qdT ⟨x0,x1,x2⟩ ⟨y0,y1,y2⟩;simp only at A;have f:(k:Int)<(es.length:Int):=by omega
  have A8:r<=1000000:=by omega
  have j1:(r:Int)<(N:Int):=by omega
  have j2:(0:Int)<=(r:Int):=by omega
  clear A0
  cases B:decide ((⟨x0,x1,x2⟩:E)=⟨y0,y1,y2⟩)with
  | true =>
   rw[B]at A;go_upto_region 11 with fail;refine zt 10 (by kernel_rfl) (by kernel_rfl) ?_;simp only[yh,yj,yi,yl]
   repeat (go_big_quiet_step (fail))
   refine wpQuiet_nil ?_;intro nq;have C:=(below_drewN wr.heap.size wr nq);have HN:Hid (IntRow (wr.drewN nq) base g es.length c/\Below base w (wr.drewN nq)):=yK ⟨HQ.o.1.below C,HQ.o.2.trans (C.mono (yJ hbw HQ.o.2.size))⟩;clear I F G W t U A B HQ C f j1 j2;revert HN;generalize wr.drewN nq=wu;intro HN;clear nq;go_wp2_with fail
   go_roundw
   case rel=>exact⟨k,r+1+1,by omega,by omega,by omega,by omega,rfl,by go_num,HN⟩
   case measure=>simp[intOf];omega
  | false =>
   rw[B]at A;go_upto_region 11 with fail;refine zt 10 (by kernel_rfl) (by kernel_rfl) ?_;simp only[yh,yj,yi,yl]
   repeat (go_big_quiet_step (fail))
   refine wpQuiet_nil ?_;intro nq;have C:=(below_drewN wr.heap.size wr nq);have HN:Hid (IntRow (wr.drewN nq) base g es.length c/\Below base w (wr.drewN nq)):=yK ⟨HQ.o.1.below C,HQ.o.2.trans (C.mono (yJ hbw HQ.o.2.size))⟩;replace I:(wr.drewN nq).cell? ⟨g,(m+1)*3+(r+1)*3,none⟩=some (.int .i64 x0):=I;replace F:(wr.drewN nq).cell? ⟨g,(m+1)*3+(r+1)*3+1,none⟩=some (.int .i64 x1):=F;replace G:(wr.drewN nq).cell? ⟨g,(m+1)*3+(r+1)*3+2,none⟩=some (.int .i64 x2):=G;clear W t U A B HQ C j1 j2;revert HN I F G;generalize wr.drewN nq=wu;intro HN I F G;clear nq;obtain⟨z0,B4⟩:=HN.o.1.cell (j:=k*3) (by omega);obtain⟨z1,B0⟩:=HN.o.1.cell (j:=k*3+1) (by omega);obtain⟨z2,A7⟩:=HN.o.1.cell (j:=k*3+2) (by omega);have B7:=HN.o.1.frozen;have A6:(0:Int)<=(k:Int):=(by omega);have A2:Hid (IntRow (((wu.setCell ⟨g,k*3,none⟩ (.int .i64 x0)).setCell ⟨g,k*3+1,none⟩ (.int .i64 x1)).setCell ⟨g,k*3+2,none⟩ (.int .i64 x2)) base g es.length c/\Below base w (((wu.setCell ⟨g,k*3,none⟩ (.int .i64 x0)).setCell ⟨g,k*3+1,none⟩ (.int .i64 x1)).setCell ⟨g,k*3+2,none⟩ (.int .i64 x2))):=yK
    ⟨((HN.o.1.store _ _).store _ _).store _ _,qfI HN.o.2 HN.o.1.ge.1 _ _ _ _ _ _⟩
   clear HN;go_wp2_with fail
   go_roundw
   case rel=>exact⟨k+1,r+1+1,by omega,by omega,by omega,by omega,by go_num,by go_num,A2⟩
   case measure=>simp[intOf];omega
theorem pairE {l:List E}:l.Pairwise ltE↔AdjE l/\NeqE l:=by
 constructor
 ·intro h;have hp:∀ (i:Nat) (a b:E),l[i]?=some a->l[i+1]?=some b->ltE a b:=λ i a b h1 h2=>by
   obtain⟨hi,rfl⟩:=yc.1 h1;obtain⟨hj,rfl⟩:=yc.1 h2;exact List.pairwise_iff_getElem.1 h i (i+1) hi hj (by omega)
  refine⟨λ i a b h1 h2 hn=>?_,λ i a b h1 h2 e=>?_⟩
  ·have:=hp i a b h1 h2;unfold ltE Q.lt E.toQ at this hn;simp only at this hn;omega
  have:=hp i a b h1 h2;subst e;unfold ltE Q.lt E.toQ at this;simp only at this;omega
 rintro⟨h1,h2⟩;have A:∀ i,(hi:i+1<l.length)->ltE (l[i]'(by omega)) l[i+1]:=λ i hi=>by
  have e1:l[i]?=some (l[i]'(by omega)):=yb (by omega);have e2:l[i+1]?=some l[i+1]:=yb hi;have n1:=h1 i _ _ e1 e2;have n2:=h2 i _ _ e1 e2;generalize l[i]'(by omega)=a at *;generalize l[i+1]=b at *;obtain⟨ax,ay,ak⟩:=a;obtain⟨bx,B,bk⟩:=b;rw[ne_eq,E.mk.injEq]at n2;unfold ltE Q.lt E.toQ at n1 ⊢;simp only at n1 ⊢;omega
 rw[List.pairwise_iff_getElem];intro i j hi hj hij;obtain⟨d,rfl⟩:∃ d,j=i+1+d:=⟨j-i-1,by omega⟩;clear hij
 induction d with
 | zero=>exact A i hj
 | succ d ih =>
  have a1:=ih (by omega);have a2:ltE (l[i+1+d]'(by omega)) (l[i+1+(d+1)]):=A (i+1+d) hj;unfold ltE Q.lt E.toQ at a1 a2 ⊢;simp only at a1 a2 ⊢;omega
def inE7 (e:E):Bool:=decide ((0<=e.x/\e.x<=16)/\(0<=e.y/\e.y<=16)/\(0<=e.k/\e.k<=5))
theorem qhW {t:Tk}:OkT t↔(∀ c∈t.counts,0<=c/\c<=16)/\isK t.ground 64=true/\(1<=t.kinds.length/\t.kinds.length<=8)/\t.counts.length=t.kinds.length/\t.counts.sum<=16/\t.fixed.length<=16/\t.below.length<=400/\(AdjE t.below/\NeqE t.below)/\(t.kinds.all λ s=>isK s 16)=true/\t.below.all inE7=true:=by
 have hk:∀ (s:List Q) (n:Nat),isK s n=true↔s.length<=n/\checkN s=0:=λ s n=>by unfold isK;exact decide_eq_true_iff
 have he:∀ e:E,inE7 e=true↔(0<=e.x/\e.x<=16)/\(0<=e.y/\e.y<=16)/\(0<=e.k/\e.k<=5):=λ e=>by unfold inE7;exact decide_eq_true_iff
 rw[List.all_eq_true,List.all_eq_true,<- pairE];constructor
 ·intro h;exact⟨h.cnt,(hk _ _).2 ⟨h.g64,h.ground⟩,h.klen,h.clen,h.csum,h.fixed,h.blen,h.bsort,λ s hs=>(hk _ _).2 ⟨h.kind16 s hs,h.kinds s hs⟩,λ e h'=>(he e).2 (h.bin e h')⟩
 rintro⟨a,b,c,d,e,f,g,i,j,k⟩;exact⟨((hk _ _).1 b).2,((hk _ _).1 b).1,λ s hs=>((hk _ _).1 (j s hs)).2,λ s hs=>((hk _ _).1 (j s hs)).1,c,d,a,e,f,g,λ x hx=>(he x).1 (k x hx),i⟩
theorem qht {w:World} {base base':Nat} {e:TypeId} {size:Nat} {v:Value} {n:Nat} {xs:List Value} (h:w.ownsRow base e size v n xs) (hb:base'<=base):w.ownsRow base' e size v n xs:=by
 refine⟨h.1,?_⟩;rcases h.2 with h2|⟨g,cap,cur,hv,hb2,r⟩
 ·exact .inl h2
 exact .inr ⟨g,cap,cur,hv,yJ hb hb2,r⟩
theorem qau {t:Tk} (w:World) (vg vk vc vf vb:Value) (hg:HasQ w vg t.ground) (hk:HasQQ w vk t.kinds) (hc:RI.Has w vc t.counts) (hf:RL.Has w vf t.fixed) (hb:RE.Has w vb t.below) (hcl:t.counts.length<=1000) (hbl:t.below.length<=1000000) :
  Calls Tryz.prog 13 #[.agg #[vg,vk,vc,vf,vb]] w (CkPost t w):=by
 have U:=yK (qhW (t:=t));have D8:t.kinds.length<=9223372036854775807:=by
  rcases hk with⟨_,h⟩|⟨_,_,_,_,h1,h2,_⟩
  ·rw[h];decide
  simp only[maxLen]at h2;omega
 have D9:t.fixed.length<=9223372036854775807:=by
  rcases hf with⟨_,h⟩|⟨_,_,_,h1,h2,_⟩
  ·rw[h];decide
  simp only[maxLen]at h2;omega
 obtain⟨gp,gc,rfl⟩:=hg.slice;obtain⟨kp,kc,rfl⟩:=hk.slice;obtain⟨cp,cc,rfl⟩:=hc.slice;obtain⟨fp,fc,rfl⟩:=hf.slice;obtain⟨bp,bc,rfl⟩:=hb.slice;have B5:=yK hb;clear hb;have HG:=yK hg;clear hg;have HK:=yK hk;clear hk;have HC:=yK hc;clear hc;have HF:=yK hf;clear hf;generalize A7:CkPost t w=Po;have A1:=yK A7;clear A7;go_enter func13,ntmps13;go_wp2_with fail;have hT:=yd w (.cells #[.slice gp t.ground.length gc,.slice kp t.kinds.length kc,.slice cp t.counts.length cc,.slice fp t.fixed.length fc,.slice bp t.below.length bc] 34);have hB:Below w.heap.size w (w.alloc (.cells #[.slice gp t.ground.length gc,.slice kp t.kinds.length kc,.slice cp t.counts.length cc,.slice fp t.fixed.length fc,.slice bp t.below.length bc] 34)):=(yf _ w).alloc (ye _) _;revert hT hB;generalize w.alloc (.cells #[.slice gp t.ground.length gc,.slice kp t.kinds.length kc,.slice cp t.counts.length cc,.slice fp t.fixed.length fc,.slice bp t.below.length bc] 34)=w1;intro hT hB;have HB:=yK hB;clear hB;have C1:=(ya.1 hT).1;have L:∀ W,Below w1.heap.size w1 W->W.heap[w.heap.size]?=some (.cells #[.slice gp t.ground.length gc,.slice kp t.kinds.length kc,.slice cp t.counts.length cc,.slice fp t.fixed.length fc,.slice bp t.below.length bc] 34 (0,0)):=λ W h=>(h.block _ C1).trans hT;have D:=yK L;clear L;have t2:w1.cell? ⟨w.heap.size,2,none⟩=some (.slice cp t.counts.length cc):=by simp only[World.cell?,hT];rfl
 go_wp2_with fail;clear t2 hT;go_loopw [4,16] (λ u z wr=>∃ i:Nat,i<=t.counts.length/\u=.int .i64 (t.counts.take i).sum/\z=.int .i64 i/\Hid (Below w1.heap.size w1 wr/\∀ c∈t.counts.take i,0<=c/\c<=16)) (λ _ z _=>t.counts.length-(intOf z).toNat)
 case atStart=>exact⟨0,by omega,rfl,rfl,yK ⟨yf _ _,by simp⟩⟩
 case round =>
  obtain⟨i,hi,rfl,rfl,HR⟩:=hrel;by_cases hlt:i<t.counts.length
  ·obtain⟨c,hc⟩:∃ c,t.counts[i]?=some c:=⟨_,yb hlt⟩;obtain⟨ca,rfl,B9⟩:=(HC.o.below (HB.o.tm HR.o.1)).at_ (by rintro e;rw[e]at hc;simp at hc);have c0:=RI.at_cell B9 hc;have A3:=zih HR.o.2;rw[Yf]at A3;have B6:=qhb hc;have l:=yK B6;clear B6;have A6:=yK hc;clear hc B9;by_cases G:0<=c/\c<=16
   ·have HW:Hid (∀ W,Calls Tryz.prog 43 #[.int .i64 c,.int .i64 0,.int .i64 16] W λ e w'=>e=.returned (.bool true)/\w'=W):=yK λ W=>by
     refine (qJ c 0 16 W).mono ?_;rintro e w' ⟨rfl,rfl⟩;exact⟨qM (yw G),rfl⟩
    obtain⟨s,hs⟩:∃ s,(t.counts.take i).sum=s:=⟨_,rfl⟩;rw[hs]at l A3;rw[hs];go_wp2_with (refine (HW.o _).mono ?_;rintro e w' ⟨rfl,rfl⟩)
    go_roundw
    case rel=>
     refine⟨i+1,by omega,by rw[l.o],by go_num,yK ⟨HR.o.1,λ x hx=>?_⟩⟩;rw[zl A6.o]at hx;rcases yY.1 hx with h|h
     ·exact HR.o.2 x h
     rw[yU]at h;subst h;exact G
    case measure=>simp[intOf];omega
   have HW:Hid (∀ W,Calls Tryz.prog 43 #[.int .i64 c,.int .i64 0,.int .i64 16] W λ e w'=>e=.returned (.bool false)/\w'=W):=yK λ W=>by
    refine (qJ c 0 16 W).mono ?_;rintro e w' ⟨rfl,rfl⟩;exact⟨qM (yv G),rfl⟩
   have D1:=yK G;clear G;obtain⟨s,hs⟩:∃ s,(t.counts.take i).sum=s:=⟨_,rfl⟩;rw[hs];clear A3 l hs;go_wp2_with (refine (HW.o _).mono ?_;rintro e w' ⟨rfl,rfl⟩);rw[<- A1.o];refine⟨2,rfl,⟨λ h=>(by cases h),λ h=>?_⟩,.inr rfl,HB.o.tm HR.o.1⟩;exact absurd ((U.o.1 h).1 c (yg A6.o)) D1.o
  obtain rfl:i=t.counts.length:=by omega
  have hr:=HR.o;rw[Yd]at hr;obtain⟨B8,Z⟩:=hr;rw[Yd];have B7:=yK Z;clear Z;clear HR;have N:=yK B8;clear B8;obtain⟨S,hS⟩:∃ S,t.counts.sum=S:=⟨_,rfl⟩;rw[hS];have Y:=yK hS;clear hS;have A8:=D.o wr N.o;have d4:wr.cell? ⟨w.heap.size,4,none⟩=some (.slice bp t.below.length bc):=by simp only[World.cell?,A8];rfl
  have M:∀ w',Below wr.heap.size wr w'->w'.cell? ⟨w.heap.size,4,none⟩=some (.slice bp t.below.length bc)/\Below wr.heap.size wr w':=λ w' h=>by
   refine⟨?_,h⟩;rw[cell_of_block (h.block _ (World.block_lt_of_cell? wr _ d4))];exact d4
  have O:=yK M;clear M A8;have C2:w.heap.size<=wr.heap.size:=yJ HB.o.size N.o.size;have T:Hid (∀ W',Below wr.heap.size wr W'->RE.Has W' (.slice bp t.below.length bc) t.below):=yK λ W' h=>B5.o.below (HB.o.trans ((N.o.tm h).mono HB.o.size));go_upto_region 10 with fail;go_cut [7]from 27 to 40 (λ u wx=>∃ r:Bool,u=.bool r/\Hid ((r=true↔AdjE t.below/\NeqE t.below)/\Below w1.heap.size w1 wx))
  case first =>
   by_cases hs:AdjE t.below
   case neg =>
    have e4:∀ d:SubW wr,d.1.cell? ⟨w.heap.size,4,none⟩=some (.slice bp t.below.length bc):=λ d=>(O.o d.1 d.2).1;have m:Hid (∀ d:SubW wr,Calls Tryz.prog 44 #[.slice bp t.below.length bc,.func (.func 45) #[] #[]] d.1 λ e w'=>e=.returned (.bool false)/\∃ d':SubW wr,w'=d'.1):=yK λ d=>(zcP t.below _ d.1 (T.o d.1 d.2) hbl).mono λ e w' ⟨r,h1,h2,h3⟩=>⟨by
     cases r with
     | false=>exact h1
     | true=>exact absurd (h2.1 rfl) hs,⟨w',d.2.tm h3⟩,rfl⟩
    refine zg 15 (by kernel_rfl) (by kernel_rfl) ?_;simp only[yh,yj,yi,yl]
    repeat (go_big_quiet_step ((exact m.o _)))
    refine wpQuiet_nil ?_;intro dq;have HX:=yK (N.o.tm dq.2);go_wp2_with fail
    go_meet
    case rel=>exact⟨false,rfl,yK ⟨⟨λ h=>(by cases h),λ h=>absurd h.1 hs⟩,HX.o⟩⟩
   have m:Hid (∀ W',Below wr.heap.size wr W'->Calls Tryz.prog 44 #[.slice bp t.below.length bc,.func (.func 45) #[] #[]] W' λ e w'=>e=.returned (.bool true)/\Below wr.heap.size wr w'):=yK λ W' hW=>(zcP t.below _ W' (T.o W' hW) hbl).mono λ e w' ⟨r,h1,h2,h3⟩=>⟨by
    cases r with
    | true=>exact h1
    | false=>exact absurd (h2.2 hs) (by decide),hW.tm h3⟩
   have D4:Hid (∀ W',Below wr.heap.size wr W'->Calls Tryz.prog 47 #[.slice bp t.below.length bc] W' λ e w'=>∃ p c,e=.returned (.slice p t.below.length c)/\OwnEd w' wr.heap.size (.slice p t.below.length c) t.below/\Below wr.heap.size wr w'):=yK λ W' hW=>(qfQ t.below _ W' (T.o W' hW) hbl).mono λ e w' ⟨u,h1,h2,h3⟩=>by
    obtain⟨p,c,rfl⟩:=zf h2;exact⟨p,c,h1,qht h2 hW.size,hW.tm h3⟩
   have D6:Hid (∀ W' v',OwnEd W' wr.heap.size v' t.below->Below wr.heap.size wr W'->Calls Tryz.prog 46 #[v'] W' λ e w'=>∃ (p:Option Addr) (n c:Nat),e=.returned (.slice p n c)/\(n=t.below.length↔NeqE t.below)/\Below wr.heap.size wr w'):=yK λ W' v' ho hW=>(zep t.below v' wr.heap.size W' ho hW.size hbl).mono λ e w' ⟨p,n,c,h1,h2,_,h4⟩=>⟨p,n,c,h1,h2,hW.trans h4⟩;have HD:Hid (Below wr.heap.size wr wr.drew):=yK ((yf _ wr).drew);clear d4;go_region_held3 (λ w'=>w'.cell? ⟨w.heap.size,4,none⟩=some (.slice bp t.below.length bc)/\Below wr.heap.size wr w') (first|exact O.o _ (by assumption)|exact O.o _ HD.o)
    (first
     | (go_at_call 44;refine (m.o wr.drew HD.o).mono ?_;rintro e wa ⟨rfl,C3⟩)
     | (go_at_call 47;refine (D4.o wa C3).mono ?_;rintro e wb ⟨p2,c2,rfl,C5,D5⟩)
     | (go_at_call 46;refine (D6.o wb _ C5 D5).mono ?_;rintro e w' ⟨p3,n3,c3,rfl,B4,D0⟩))
   have HX:=yK (N.o.tm D0);go_wp2_with fail
   go_meet
   case rel=>exact⟨_,rfl,yK ⟨⟨λ h=>⟨hs,B4.1 (by have:=eq_of_beq h;omega)⟩,λ h=>by rw[beq_iff_eq,B4.2 h.2]⟩,HX.o⟩⟩
  obtain⟨r,rfl,J⟩:=hcut;clear O T d4 C2;have g:=D.o wc J.o.2;have e0:wc.cell? ⟨w.heap.size,0,none⟩=some (.slice gp t.ground.length gc):=by simp only[World.cell?,g];rfl
  have a:=HB.o.tm J.o.2;have I:=yK (qgm t.ground _ 64 (by decide) wc (HG.o.below a));clear a g;go_upto_region 11 with fail;go_cut [8]from 41 to 78 (λ u wx=>∃ b:Bool,u=.bool b/\Hid ((b=true↔isK t.ground 64=true/\(1<=t.kinds.length/\t.kinds.length<=8)/\t.counts.length=t.kinds.length/\t.counts.sum<=16/\t.fixed.length<=16/\t.below.length<=400/\r=true)/\Below w1.heap.size w1 wx))
  case first =>
   go_wp2_with fail;refine I.o.mono ?_;rintro e w3 ⟨rfl,C0⟩;have B:=yK (J.o.2.tm C0);clear C0 I J e0;have C:=D.o w3 B.o;have e1:w3.cell? ⟨w.heap.size,1,none⟩=some (.slice kp t.kinds.length kc):=(by simp only[World.cell?,C];rfl);have e2:w3.cell? ⟨w.heap.size,2,none⟩=some (.slice cp t.counts.length cc):=(by simp only[World.cell?,C];rfl);have e3:w3.cell? ⟨w.heap.size,3,none⟩=some (.slice fp t.fixed.length fc):=(by simp only[World.cell?,C];rfl);have e4:w3.cell? ⟨w.heap.size,4,none⟩=some (.slice bp t.below.length bc):=(by simp only[World.cell?,C];rfl);clear C;obtain⟨g1,k⟩:∃ g1,isK t.ground 64=g1:=⟨_,rfl⟩;rw[k];have B0:=yK k;clear k
   cases g1 with
   | false =>
    go_wp2_with fail
    go_meet
    case rel=>exact⟨false,rfl,yK ⟨⟨λ h=>(by cases h),λ h=>(by have:=h.1;rw[B0.o]at this;cases this)⟩,B.o⟩⟩
   | true =>
    by_cases h2:1<=t.kinds.length/\t.kinds.length<=8
    case neg =>
     have HW:Hid (∀ W,Calls Tryz.prog 43 #[.int .i64 t.kinds.length,.int .i64 1,.int .i64 8] W λ e w'=>e=.returned (.bool false)/\w'=W):=yK λ W=>by
      refine (qJ _ 1 8 W).mono ?_;rintro e w' ⟨rfl,rfl⟩;exact⟨qM (yv (by omega)),rfl⟩
     have H2:=yK h2;clear h2;go_wp2_with fail;refine (HW.o _).mono ?_;rintro e w' ⟨rfl,rfl⟩;go_wp2_with fail
     go_meet
     case rel=>exact⟨false,rfl,yK ⟨⟨λ h=>(by cases h),λ h=>absurd h.2.1 H2.o⟩,B.o⟩⟩
    have HW:Hid (∀ W,Calls Tryz.prog 43 #[.int .i64 t.kinds.length,.int .i64 1,.int .i64 8] W λ e w'=>e=.returned (.bool true)/\w'=W):=yK λ W=>by
     refine (qJ _ 1 8 W).mono ?_;rintro e w' ⟨rfl,rfl⟩;exact⟨qM (yw (by omega)),rfl⟩
    have H2:=yK h2;clear h2;by_cases h3:t.counts.length=t.kinds.length
    case neg =>
     have C7:((t.counts.length:Int)==(t.kinds.length:Int))=false:=(by simp only[Yt,ne_eq];omega);have H3:=yK h3;clear h3;go_wp2_with fail;refine (HW.o _).mono ?_;rintro e w' ⟨rfl,rfl⟩;go_wp2_with fail
     go_meet
     case rel=>exact⟨false,rfl,yK ⟨⟨λ h=>(by cases h),λ h=>absurd h.2.2.1 H3.o⟩,B.o⟩⟩
    have C7:((t.counts.length:Int)==(t.kinds.length:Int))=true:=(by rw[h3];exact beq_self_eq_true _);have H3:=yK h3;clear h3;by_cases h4:S<=16
    case neg =>
     have C4:decide (S<=16)=false:=yv h4;have H4:=yK h4;clear h4;go_wp2_with fail;refine (HW.o _).mono ?_;rintro e w' ⟨rfl,rfl⟩;go_wp2_with fail
     go_meet
     case rel=>exact⟨false,rfl,yK ⟨⟨λ h=>(by cases h),λ h=>absurd h.2.2.2.1 (by have:=H4.o;rw[Y.o];omega)⟩,B.o⟩⟩
    have C4:decide (S<=16)=true:=yw h4;have H4:=yK h4;clear h4;by_cases h5:t.fixed.length<=16
    case neg =>
     have D7:decide ((t.fixed.length:Int)<=16)=false:=yv (by omega);have H5:=yK h5;clear h5;go_wp2_with fail;refine (HW.o _).mono ?_;rintro e w' ⟨rfl,rfl⟩;go_wp2_with fail
     go_meet
     case rel=>exact⟨false,rfl,yK ⟨⟨λ h=>(by cases h),λ h=>absurd h.2.2.2.2.1 H5.o⟩,B.o⟩⟩
    have D7:decide ((t.fixed.length:Int)<=16)=true:=yw (by omega);have H5:=yK h5;clear h5;by_cases h6:t.below.length<=400
    case neg =>
     have D2:decide ((t.below.length:Int)<=400)=false:=yv (by omega);have H6:=yK h6;clear h6;go_wp2_with fail;refine (HW.o _).mono ?_;rintro e w' ⟨rfl,rfl⟩;go_wp2_with fail
     go_meet
     case rel=>exact⟨false,rfl,yK ⟨⟨λ h=>(by cases h),λ h=>absurd h.2.2.2.2.2.1 H6.o⟩,B.o⟩⟩
    have D2:decide ((t.below.length:Int)<=400)=true:=yw (by omega);have H6:=yK h6;clear h6;go_wp2_with fail;refine (HW.o _).mono ?_;rintro e w' ⟨rfl,rfl⟩;go_wp2_with fail
    go_meet
    case rel=>exact⟨r,rfl,yK ⟨⟨λ h=>⟨B0.o,H2.o,H3.o,by rw[Y.o];exact H4.o,H5.o,H6.o,h⟩,λ h=>h.2.2.2.2.2.2⟩,B.o⟩⟩
  obtain⟨b,rfl,A5⟩:=hcut;clear I e0;have C:=D.o wc A5.o.2;have e1:wc.cell? ⟨w.heap.size,1,none⟩=some (.slice kp t.kinds.length kc):=by simp only[World.cell?,C];rfl
  clear C;have B:Hid (Below w1.heap.size w1 wc):=yK A5.o.2;go_wp2_with fail;go_loopw [8,82] (λ u z wr=>∃ i:Nat,i<=t.kinds.length/\u=.bool (b&&(t.kinds.take i).all λ s=>isK s 16)/\z=.int .i64 i/\Hid (Below w1.heap.size w1 wr)) (λ _ z _=>t.kinds.length-(intOf z).toNat)
  case atStart=>exact⟨0,by omega,by simp,rfl,B⟩
  clear B e1;obtain⟨i,hi,rfl,rfl,HR⟩:=hrel;by_cases hlt:i<t.kinds.length
  case pos =>
   obtain⟨s,hs⟩:∃ s,t.kinds[i]?=some s:=⟨_,yb hlt⟩;obtain⟨ka,sv,rfl,C8,A4⟩:=(HK.o.below (HB.o.tm HR.o)).at hs;obtain⟨sp,sc,rfl⟩:=A4.slice;obtain⟨A,hA⟩:∃ A,(b&&(t.kinds.take i).all λ s=>isK s 16)=A:=⟨_,rfl⟩;have F:Hid ((b&&(t.kinds.take (i+1)).all λ s=>isK s 16)=(A&&isK s 16)):=yK (by rw[qdY (f:=λ s=>isK s 16) hs,<- Bool.and_assoc,hA]);have I:=yK (qgm s _ 16 (by decide) wr A4);clear A4 hs;rw[hA];clear hA
   cases A with
   | true =>
    go_wp2_with fail;refine I.o.mono ?_;rintro e w5 ⟨rfl,B3⟩;have C6:=yK (HR.o.tm B3);clear B3 I C8 HR;go_wp2_with fail
    go_roundw
    case rel=>exact⟨i+1,by omega,by rw[F.o];simp only[Bool.true_and],by go_num,C6⟩
    case measure=>simp[intOf];omega
   | false =>
    go_wp2_with fail
    go_roundw
    case rel=>exact⟨i+1,by omega,by rw[F.o];rfl,by go_num,HR⟩
    case measure=>simp[intOf];omega
  obtain rfl:i=t.kinds.length:=by omega
  rw[Yd];have V:=D.o wr HR.o;have e4:wr.cell? ⟨w.heap.size,4,none⟩=some (.slice bp t.below.length bc):=by simp only[World.cell?,V];rfl
  clear V;obtain⟨b2,v⟩:∃ b2,(b&&t.kinds.all λ s=>isK s 16)=b2:=⟨_,rfl⟩;rw[v];have D3:=yK v;clear v;go_wp2_with fail;clear e4;go_loopw [8,96] (λ u z wr=>∃ i:Nat,i<=t.below.length/\u=.bool (b2&&(t.below.take i).all inE7)/\z=.int .i64 i/\Hid (Below w1.heap.size w1 wr)) (λ _ z _=>t.below.length-(intOf z).toNat)
  case atStart=>exact⟨0,by omega,by simp,rfl,HR⟩
  clear HR;obtain⟨i,hi,rfl,rfl,HR⟩:=hrel;by_cases hlt:i<t.below.length
  case pos =>
   obtain⟨e,he⟩:∃ e,t.below[i]?=some e:=⟨_,yb hlt⟩;obtain⟨xa,rfl,B1⟩:=(B5.o.below (HB.o.tm HR.o)).at_ (by rintro e';rw[e']at he;simp at he);have B2:(Instr.loadAt 61 (.pointer (some (xa.add (i*3))))).run Tryz.prog wr=.ok (.agg (eVals e).toArray) wr:=zn (P:=Tryz.prog) (R:=RE) underlying61 rfl (by kernel_rfl) B1 he;obtain⟨A,hA⟩:∃ A,(b2&&(t.below.take i).all inE7)=A:=⟨_,rfl⟩;have F:Hid ((b2&&(t.below.take (i+1)).all inE7)=(A&&inE7 e)):=yK (by rw[qdY he,<- Bool.and_assoc,hA]);rw[hA];clear hA B1 he;have X:(Tryz.prog.info? 61).map (·.size)=some (eVals e).toArray.size:=(by kernel_rfl);have K:(eVals e).toArray.all (·.oneCell')=true:=(by simp[eVals,Value.oneCell']);go_upto_region 20 with (first
    | (refine qo rfl 61 _ rfl rfl B2 ?_)
    | (refine wpList_store_row rfl 61 _ _ rfl wr.heap.size rfl 61 _ (eVals e).toArray rfl (yd wr _) X rfl K ?_;rw[World.setRow_alloc_new]))
   have hE:=yd wr (.cells (eVals e).toArray 61);have hbl:Below wr.heap.size wr (wr.alloc (.cells (eVals e).toArray 61)):=(yf _ wr).alloc (ye _) _;revert hE hbl;generalize wr.alloc (.cells (eVals e).toArray 61)=w3;intro hE hbl;have B:=yK (HR.o.tm hbl);clear hbl B2 HR X K;generalize wr.heap.size=eb at *;obtain⟨ex,ey,ek⟩:=e;have c0:w3.cell? ⟨eb,0,none⟩=some (.int .i64 ex):=(by simp[World.cell?,hE,eVals]);have c1:w3.cell? ⟨eb,1,none⟩=some (.int .i64 ey):=(by simp[World.cell?,hE,eVals]);have c2:w3.cell? ⟨eb,2,none⟩=some (.int .i64 ek):=(by simp[World.cell?,hE,eVals]);clear hE
   cases A with
   | false =>
    clear c0 c1 c2;go_wp2_with fail
    go_roundw
    case rel=>exact⟨i+1,by omega,by rw[F.o];rfl,by go_num,B⟩
    case measure=>simp[intOf];omega
   | true =>
    obtain⟨q1,A0⟩:∃ q1,decide (0<=ex/\ex<=16)=q1:=⟨_,rfl⟩;obtain⟨q2,j⟩:∃ q2,decide (0<=ey/\ey<=16)=q2:=⟨_,rfl⟩;obtain⟨q3,A2⟩:∃ q3,decide (0<=ek/\ek<=5)=q3:=⟨_,rfl⟩;have G:inE7 ⟨ex,ey,ek⟩=(q1&&(q2&&q3)):=by
     rw[<- A0,<- j,<- A2];unfold inE7;simp only[Bool.decide_and]
    rw[G]at F;have y:Hid (∀ W,Calls Tryz.prog 43 #[.int .i64 ex,.int .i64 0,.int .i64 16] W λ e w'=>e=.returned (.bool q1)/\w'=W):=yK λ W=>by
     refine (qJ _ 0 16 W).mono ?_;rintro e w' ⟨rfl,rfl⟩;exact⟨qM (by rw[<- A0]),rfl⟩
    have A9:Hid (∀ W,Calls Tryz.prog 43 #[.int .i64 ey,.int .i64 0,.int .i64 16] W λ e w'=>e=.returned (.bool q2)/\w'=W):=yK λ W=>by
     refine (qJ _ 0 16 W).mono ?_;rintro e w' ⟨rfl,rfl⟩;exact⟨qM (by rw[<- j]),rfl⟩
    have C9:Hid (∀ W,Calls Tryz.prog 43 #[.int .i64 ek,.int .i64 0,.int .i64 5] W λ e w'=>e=.returned (.bool q3)/\w'=W):=yK λ W=>by
     refine (qJ _ 0 5 W).mono ?_;rintro e w' ⟨rfl,rfl⟩;exact⟨qM (by rw[<- A2]),rfl⟩
    clear G A0 j A2
    cases q1 with
    | false =>
     go_wp2_with fail;refine (y.o _).mono ?_;rintro e w' ⟨rfl,rfl⟩;go_wp2_with fail
     go_roundw
     case rel=>exact⟨i+1,by omega,by rw[F.o];rfl,by go_num,B⟩
     case measure=>simp[intOf];omega
    | true =>
     cases q2 with
     | false =>
      go_wp2_with fail;refine (y.o _).mono ?_;rintro e w' ⟨rfl,rfl⟩;go_wp2_with fail;refine (A9.o _).mono ?_;rintro e w' ⟨rfl,rfl⟩;go_wp2_with fail
      go_roundw
      case rel=>exact⟨i+1,by omega,by rw[F.o];rfl,by go_num,B⟩
      case measure=>simp[intOf];omega
     | true =>
      go_wp2_with fail;refine (y.o _).mono ?_;rintro e w' ⟨rfl,rfl⟩;go_wp2_with fail;refine (A9.o _).mono ?_;rintro e w' ⟨rfl,rfl⟩;go_wp2_with fail;refine (C9.o _).mono ?_;rintro e w' ⟨rfl,rfl⟩;go_wp2_with fail
      go_roundw
      case rel=>exact⟨i+1,by omega,by rw[F.o];simp only[Bool.true_and],by go_num,B⟩
      case measure=>simp[intOf];omega
  obtain rfl:i=t.below.length:=by omega
  rw[Yd];obtain⟨b3,q⟩:∃ b3,(b2&&t.below.all inE7)=b3:=⟨_,rfl⟩;rw[q];have H:Hid (b3=true↔OkT t):=yK (by
   rw[<- q,<- D3.o,U.o,Yr,Yr,A5.o.1,J.o.1];constructor
   ·rintro⟨⟨⟨x1,x2,x3,x4,x5,x6,x7⟩,x8⟩,x9⟩;exact⟨B7.o,x1,x2,x3,x4,x5,x6,x7,x8,x9⟩
   rintro⟨_,x1,x2,x3,x4,x5,x6,x7,x8,x9⟩;exact⟨⟨⟨x1,x2,x3,x4,x5,x6,x7⟩,x8⟩,x9⟩)
  clear q
  cases b3 with
  | true =>
   have HY:=yK (H.o.1 rfl);clear H;go_wp2_with fail;rw[<- A1.o];exact⟨0,rfl,⟨λ _=>HY.o,λ _=>rfl⟩,.inl rfl,HB.o.tm HR.o⟩
  | false =>
   have HY:Hid (¬ OkT t):=yK (λ h=>by have:=H.o.2 h;cases this);clear H;go_wp2_with fail;rw[<- A1.o];exact⟨2,rfl,⟨λ h=>(by cases h),λ h=>absurd h HY.o⟩,.inr rfl,HB.o.tm HR.o⟩
theorem qds {t:Tk} (ho:OkT t) {L:List E} (hL:LOk t.ground L):∀ e∈L,okE e:=λ e he=>by
 obtain⟨q,hq,hqe⟩:=(hL.mem e).1 he;exact qaJ ((qh ho.ground).1.1 q hq) e hqe
theorem zbi {t:Tk} (ho:OkT t):∀ e∈t.below,okE e:=λ e he=>ho.bin e he
theorem qcq {t:Tk} (ho:OkT t) {L:List E} (hL:LOk t.ground L) (w:World) (bb:Nat) (bv:BV) (hb:BdAt w bb bv t L (pcsT t L) (belT t L)) (htb:TbAt w) (l:List Ld) (h16:l.length<=16) (v:Value) (hv:RL.Has w v l) (hjs:RE.Has w bv.b t.below) :
  Calls Tryz.prog 59 #[.pointer (some ⟨bb,0,none⟩),v] w (CovPost t t.below L l w) :=
 zdn (qR ho hL) w bb bv hb htb l h16 v hv hjs ho.fixed (yJ ho.blen (by decide)) hL.nodup (qds ho hL) (zbi ho)
def CovTask (t:Tk) (l:List Ld) (w:World) (e:Ending) (w':World):Prop:=∃ n i code:Nat,e=.returned (.tuple #[.int .i64 n,.int .i64 i,.int .i64 code])/\Bw w w' /\
 (¬ OkT t->(n,i,code)=(0,0,2))/\(OkT t->16<l.length->(n,i,code)=(0,0,5))/\(OkT t->l.length<=16->(n,i)=coversT t l/\code=0)
theorem zfQ {t:Tk} (w:World) (vg vk vc vf vb v:Value) (hg:HasQ w vg t.ground) (hk:HasQQ w vk t.kinds) (hc:RI.Has w vc t.counts) (hcf:flatV vc) (hf:RL.Has w vf t.fixed) (hb:RE.Has w vb t.below) (hcl:t.counts.length<=1000) (hbl:t.below.length<=1000000) (htb:TbAt w) (l:List Ld) (hll:l.length<=1000000) (hv:RL.Has w v l) :
  Calls Tryz.prog 19 #[.agg #[vg,vk,vc,vf,vb],v] w (CovTask t l w):=by
 obtain⟨gp,gc,rfl⟩:=hg.slice;obtain⟨kp,kc,rfl⟩:=hk.slice;obtain⟨cp,cc,rfl⟩:=hc.slice;obtain⟨fp,fc,rfl⟩:=hf.slice;obtain⟨bp,bc,rfl⟩:=hb.slice;obtain⟨vp,vq,rfl⟩:=hv.slice;have y:∀ W,Bw w W->Calls Tryz.prog 13 #[.agg #[.slice gp t.ground.length gc,.slice kp t.kinds.length kc,.slice cp t.counts.length cc,.slice fp t.fixed.length fc,.slice bp t.below.length bc]] W (CkPost t W) :=
  λ W h=>qau W _ _ _ _ _ (hg.below h) (hk.below h) (hc.below h) (hf.below h) (hb.below h) hcl hbl
 have A0:OkT t->∀ W,Bw w W->Calls Tryz.prog 37 #[.agg #[.slice gp t.ground.length gc,.slice kp t.kinds.length kc,.slice cp t.counts.length cc,.slice fp t.fixed.length fc,.slice bp t.below.length bc]] W λ e w'=>∃ (bb:Nat) (bv:BV) (L:List E),e=.returned (.pointer (some ⟨bb,0,none⟩))/\W.heap.size<=bb/\BdAt w' bb bv t L (pcsT t L) (belT t L)/\LOk t.ground L/\Bw W w'/\bv.b=.slice bp t.below.length bc :=
  λ ho W h=>(zaY ho W _ _ _ _ _ (hg.below h) (hk.below h) (hc.below h) hcf (hf.below h) (hb.below h)).mono λ e w' ⟨bb,bv,L,h1,h2,h3,h4,h5,h6⟩=>⟨bb,bv,L,h1,h2,h3,h4,h5,h6.b⟩
 have Y:∀ W bb bv L,OkT t->l.length<=16->Bw w W->LOk t.ground L->BdAt W bb bv t L (pcsT t L) (belT t L)->bv.b=.slice bp t.below.length bc->Calls Tryz.prog 59 #[.pointer (some ⟨bb,0,none⟩),.slice vp l.length vq] W (CovPost t t.below L l W) :=
  λ W bb bv L ho h16 h hl H G=>qcq ho hl W bb bv H (htb.below h) l h16 _ (hv.below h) (by rw[G];exact hb.below h)
 have m:=yK y;clear y;have a:=yK A0;clear A0;have c:=yK Y;clear Y hg hk hc hf htb hcf hv hb;go_enter func19,ntmps19;go_wp2_with fail;have hT:=yd w (.cells #[.slice gp t.ground.length gc,.slice kp t.kinds.length kc,.slice cp t.counts.length cc,.slice fp t.fixed.length fc,.slice bp t.below.length bc] 34);have hB:Bw w (w.alloc (.cells #[.slice gp t.ground.length gc,.slice kp t.kinds.length kc,.slice cp t.counts.length cc,.slice fp t.fixed.length fc,.slice bp t.below.length bc] 34)):=(yf _ w).alloc (ye _) _;revert hT hB;generalize w.alloc (.cells #[.slice gp t.ground.length gc,.slice kp t.kinds.length kc,.slice cp t.counts.length cc,.slice fp t.fixed.length fc,.slice bp t.below.length bc] 34)=w1;intro hT hB;have HB:=yK hB;clear hB;have V:=(ya.1 hT).1;refine (m.o w1 HB.o).mono ?_;rintro e w2 ⟨A5,rfl,h0,h2,P⟩;have R:=(P.block _ V).trans hT;have I:=yK (HB.o.tm P);clear P HB V;rcases h2 with rfl|rfl
 case inr =>
  have s:Hid (¬ OkT t):=yK λ h=>absurd (h0.2 h) (by decide);clear h0 R hT;go_wp2_with fail;refine Yc (zbS rfl _ _ _ _ _ rfl rfl rfl) rfl ?_;exact⟨0,0,2,rfl,I.o,λ _=>rfl,λ h=>absurd h s.o,λ h=>absurd h s.o⟩
 case inl =>
  have D:Hid (OkT t):=yK (h0.1 rfl);have A:∀ j,w2.cell? ⟨w.heap.size,j,none⟩=(#[.slice gp t.ground.length gc,.slice kp t.kinds.length kc,.slice cp t.counts.length cc,.slice fp t.fixed.length fc,.slice bp t.below.length bc]:Array Value)[j]?:=λ j=>by simp only[World.cell?,R];simp
  have c0:=A 0;have c1:=A 1;have c2:=A 2;have c3:=A 3;have c4:=A 4;simp at c0 c1 c2 c3 c4;clear A hT m R h0;have HL:=yK (a.o D.o w2 I.o);clear a;by_cases h16:l.length<=16
  case neg =>
   have A1:decide ((16:Int)<(l.length:Int))=true:=yw (by omega);clear c0 c1 c2 c3 c4;have J:=yK h16;clear h16;go_wp2_with fail;refine Yc (zbS rfl _ _ _ _ _ rfl rfl rfl) rfl ?_;exact⟨0,0,5,rfl,I.o,λ h=>absurd D.o h,λ _ _=>rfl,λ _ h=>absurd h J.o⟩
  have A1:decide ((16:Int)<(l.length:Int))=false:=yv (by omega);have J:=yK h16;clear h16;go_wp2_with fail;refine HL.o.mono ?_;rintro e w3 ⟨bb,bv,L,rfl,A4,H,K,z,G⟩;have x:=yK (I.o.tm z);clear z HL;have Z:=yK (c.o w3 bb bv L D.o J.o x.o K H G);clear c H K c0 c1 c2 c3 c4 A4 G;go_wp2_with fail;refine Z.o.mono ?_;rintro e w4 ⟨n,i,cS,rfl,g,q,S,M,_⟩;have A2:=yK g;clear g;have F:=yK (x.o.tm q);clear q Z;have f:(Tryz.prog.info? 108).map (·.size)=some cS.size:=by rw[<- S];exact sizeS
  have C:(Tryz.prog.info? 135).map (·.size)=some (#[.int .i64 n,.int .i64 i]:Array Value).size:=by kernel_rfl
  obtain⟨cF,B⟩:∃ cF:Array Value,#[.int .i64 n,.int .i64 i]=cF:=⟨_,rfl⟩;rw[B]at C ⊢;have N:cF.all (·.oneCell')=true:=by rw[<- B];simp[Value.oneCell']
  have r:(#[.int .i64 0,.int .i64 0]:Array Value).size=cF.size:=by rw[<- B];rfl
  have X:=yK B;clear B;have O:=(qP w4 (.cells #[.int .i64 0,.int .i64 0] 135) (.cells (hsVals zeroS).toArray 108)).1;have p:=(setRow_other ((w4.alloc (.cells #[.int .i64 0,.int .i64 0] 135)).alloc (.cells (hsVals zeroS).toArray 108)) w4.heap.size (w4.heap.size+1) cF (by omega)).trans (qP w4 (.cells #[.int .i64 0,.int .i64 0] 135) (.cells (hsVals zeroS).toArray 108)).2.1;go_upto_region 7 with (first
   | (refine wpList_store_row rfl 135 _ _ rfl w4.heap.size rfl 135 _ cF rfl O C r N ?_)
   | (refine wpList_store_row rfl 108 _ _ rfl (w4.heap.size+1) rfl 108 _ cS rfl p f S M ?_))
  simp only[Act.put];have A3:((((w4.alloc (.cells #[.int .i64 0,.int .i64 0] 135)).alloc (.cells (hsVals zeroS).toArray 108)).setRow w4.heap.size cF).setRow (w4.heap.size+1) cS).heap[w4.heap.size]?=some (.cells cF 135 (0,0)):=(setRow_other _ _ _ _ (by omega)).trans (setRow_heap _ _ _ _ _ _ O);have k:Bw w ((((w4.alloc (.cells #[.int .i64 0,.int .i64 0] 135)).alloc (.cells (hsVals zeroS).toArray 108)).setRow w4.heap.size cF).setRow (w4.heap.size+1) cS):=zh (zh (F.o.trans ((qP w4 _ _).2.2.mono F.o.size)) F.o.size _) (by have:=F.o.size;omega) _;have U:=yK k;clear k O p;revert A3 U;change _->_->Code.wp _ _ _ _ ((((w4.alloc (.cells #[.int .i64 0,.int .i64 0] 135)).alloc (.cells (hsVals zeroS).toArray 108)).setRow w4.heap.size cF).setRow (w4.heap.size+1) cS);generalize ((((w4.alloc (.cells #[.int .i64 0,.int .i64 0] 135)).alloc (.cells (hsVals zeroS).toArray 108)).setRow w4.heap.size cF).setRow (w4.heap.size+1) cS)=w5;intro hF U;have f0:∀ d:SubW w5,d.1.cell? ⟨w4.heap.size,0,none⟩=some (.int .i64 n):=λ d=>by rw[<- X.o]at hF;simp[World.cell?,d.block hF]
  have f1:∀ d:SubW w5,d.1.cell? ⟨w4.heap.size,1,none⟩=some (.int .i64 i):=λ d=>by rw[<- X.o]at hF;simp[World.cell?,d.block hF]
  clear hF S M f C N r;refine zg 7 (by kernel_rfl) (by kernel_rfl) ?_;simp only[yh,yj,yi,yl]
  repeat (go_big_quiet_step (fail))
  refine wpQuiet_nil ?_;intro dq;have T:=U.o.tm dq.2;clear f0 f1;revert T;generalize dq.1=w6;intro T;go_wp2_with fail;refine Yc (zbS rfl _ _ _ _ _ rfl rfl rfl) rfl ?_;exact⟨n,i,0,rfl,T,λ h=>absurd D.o h,λ _ h=>absurd h (by have:=J.o;omega),λ _ _=>⟨A2.o,rfl⟩⟩
def longP (ps:List (List Ld)):Bool:=ps.any λ l=>decide (16<l.length)
def VerP (t:Tk) (L:List E):Nat->List E->List (List Ld)->Int->Nat->Nat->Prop
 | _,_,[],r,n,a=>r=-1/\n=0/\a=0
 | i,js,l :: ls,r,n,a=>(coversT (withB t js) l≠(0,0)/\r=i/\(n,a)=coversT (withB t js) l) \/
   (coversT (withB t js) l=(0,0)/\∃ es:List E,es.Perm (L.filter (jointT (parts t l)))/\es.Pairwise (λ a b=>¬ ltE b a)/\VerP t L (i+1) es ls r n a)
theorem zdf {t:Tk} (ho:OkT t) {L:List E} (hL:LOk t.ground L) {x:List Pc} (hx:GoodT t x) {e:E} (he:jointT x e=true):e∈L:=by
 by_cases hin:e∈L
 ·exact hin
 exfalso;unfold jointT at he;rw[List.filter_eq_nil_iff.2 λ p hp=>by
  rw[decide_eq_true_iff];exact λ hb=>hin ((qR ho hL).inL p (hx.mem p hp) _ hb)]at he
 cases he
theorem zg9 {t:Tk} (ho:OkT t) {x:List Pc} (hx:x∈(tilingsT (withB t [])).1) {js:List E} (hq:∀ e∈js,jointT x e=false):coversT (withB t js) (x.map (·.ld))=(0,0):=by
 have hf:=(zcA (za9 ho) (yV hx).choose_spec).1;obtain⟨_,h1,h2,_⟩:=zcA (za9 ho) (yV hx).choose_spec;have hm:∀ p∈x,p∈(piecesT t).flatten:=hf.good.mem;have h3:FullT (withB t js) x:={ good:=⟨hf.good.mem,hf.good.apart⟩,full:=hf.full,right:=hf.right,sort:=hf.sort,fixed:=hf.fixed,quiet:=hq };exact zcv h3
theorem qgr {t:Tk} (ho:OkT t) {x:List Pc} (hx:x∈(tilingsT (withB t [])).1):parts t (x.map (·.ld))=x :=
 (zcA (za9 ho) (yV hx).choose_spec).2.1
theorem zeN {t:Tk} (ho:OkT t) {L:List E} (hL:LOk t.ground L):∀ (xs:List (List Pc)) (i:Nat) (js:List E) {r:Int} {n a:Nat},(∀ x∈xs,x∈(tilingsT (withB t [])).1)->(∀ x,xs[0]?=some x->∀ e∈js,jointT x e=false) ->
  (∀ (i:Nat) (x y:List Pc),xs[i]?=some x->xs[i+1]?=some y->ovP t.ground (jointT y) (jointT x)=true)->VerP t L i js (xs.map λ T=>T.map (·.ld)) r n a->r=-1/\n=0/\a=0
 | [],i,js,r,n,a,_,_,_,h=>h
 | x :: xs,i,js,r,n,a,hm,h0,hs,h=>by
  have hx:=hm x (by simp);have hc:=zg9 ho hx (h0 x rfl);rcases h with⟨h1,_⟩|⟨_,es,he,_,h2⟩
  ·exact absurd hc h1
  refine zeN ho hL xs (i+1) es (λ y hy=>hm y (by simp[hy])) (λ y hy e hee=>?_) (λ j y z hy hz=>hs (j+1) y z (by simpa using hy) (by simpa using hz)) h2;have h3:=hs 0 x y (by simp) (by simpa using hy);have h4:=he.mem_iff.1 hee;rw[qgr ho hx,List.mem_filter]at h4;rw[zcJ (λ q hq=>(qh ho.ground).1.1 q hq) hL]at h3;have h5:=h3 e h4.1;rw[h4.2,Bool.and_true]at h5;exact h5
theorem qfF {t:Tk} (ho:OkT t) {L:List E} (hL:LOk t.ground L) {x:List Pc} (hx:x∈(tilingsT (withB t [])).1) (h:ovP t.ground (jointT x) (λ e=>decide (e∈t.below))=true):∀ e∈t.below,jointT x e=false:=λ e he=>by
 cases hj:jointT x e with
 | false=>rfl
 | true =>
  have hf:=(zcA (za9 ho) (yV hx).choose_spec).1;have hin:=zdf ho hL ⟨hf.good.mem,hf.good.apart⟩ hj;rw[zcJ (λ q hq=>(qh ho.ground).1.1 q hq) hL]at h;have:=h e hin;rw[hj,yw he]at this
  cases this
theorem zeQ (t:Tk) (n:Nat):((layersT t n).1=[]/\((layersT t n).2=7\/(layersT t n).2=8)) \/
  ∃ xs,planT t.ground (tilingsT (withB t [])).1 n (λ e=>decide (e∈t.below))=some xs/\layersT t n=(xs.map λ T=>T.map (·.ld),0):=by
 unfold layersT;split
 ·rename_i h;rcases qez (withB t [])with h1|h1
  ·exact absurd h1 h
  exact .inl ⟨rfl,.inr h1⟩
 ·split
  ·exact .inl ⟨rfl,.inr rfl⟩
  split
  ·exact .inl ⟨rfl,.inl rfl⟩
  rename_i x hx;exact .inr ⟨x,hx,rfl⟩
theorem qfd {t:Tk} {n m:Nat} {ps:List (List Ld)} (hn:2<=n) (h:layersT t n=(ps,0)):∃ ps',layersT t m=(ps',0)/\ps'.length=m:=by
 obtain⟨k,rfl⟩:∃ k,n=k+2:=⟨n-2,by omega⟩;unfold layersT at h;split at h
 ·rename_i h1;rw[Prod.mk.injEq]at h;exact absurd h.2 h1
 rename_i h1;split at h
 ·rw[Prod.mk.injEq]at h;exact absurd h.2 (by decide)
 rename_i h2;split at h
 ·rw[Prod.mk.injEq]at h;exact absurd h.2 (by decide)
 rename_i x hx;obtain⟨y,hy⟩:=qgl hx m;refine⟨y.map λ T=>T.map (·.ld),?_,by rw[yB];exact (zce hy).1⟩;unfold layersT;rw[Yz h1,Yz h2,hy]
theorem qcZ {t:Tk} (ho:OkT t) {x:List Pc} (hx:x∈(tilingsT (withB t [])).1):TlT t x/\x.length<=16:=by
 obtain⟨hf,_,_,h16⟩:=zcA (za9 ho) (yV hx).choose_spec;exact⟨⟨⟨hf.good.mem,hf.good.apart⟩,hf.full,hf.right,hf.sort⟩,h16⟩
theorem zgm {t:Tk} (ho:OkT t) {x y:List Pc} (hx:GoodT t x) (h:ovP t.ground (jointT y) (jointT x)=true) {es:List E} (he:es.Perm (jointE (x.map (·.qs)))):(∀ e∈es,okE e)/\es.Nodup/\∀ e∈es,jointT y e=false:=by
 have hq:∀ q∈(x.map (·.qs)).flatten,inQ q:=λ q hq=>(qh ho.ground).1.1 q ((qaf ho hx).2.1 q hq);have hL:LOk t.ground (edgesL t.ground):=⟨zar t.ground,qah λ q hq=>(qh ho.ground).1.1 q hq⟩;have A:∀ e∈es,jointT x e=true/\e∈edgesL t.ground:=λ e hee=>by
  have h1:jointT x e=true:=by rw[zb3 ho hx];exact (qb7 hq e).1 (he.mem_iff.1 hee)
  exact⟨h1,zdf ho hL hx h1⟩
 refine⟨λ e hee=>qds ho hL e (A e hee).2,he.nodup_iff.2 (zbC hq),λ e hee=>?_⟩;rw[zcJ (λ q hq=>(qh ho.ground).1.1 q hq) hL]at h;have:=h e (A e hee).2;rw[(A e hee).1,Bool.and_true]at this;exact this
theorem zcR {t:Tk} (ho:OkT t):t.below.Nodup:=ho.bsort.imp λ {a b} h e=>by
 subst e;exact Q.lt_irrefl _ h
end Go.Proofs.YtiinlplgloaanaaGreatDoor
