/- A range over a function, at the wide fence: one law for a loop inside or outside of a round. -/
import Derived.Lib.Hide
import Derived.RangeFuncNested
import Derived.RangeFuncBound
import Derived.Shelf.RegionOpen
import Derived.WalkKit
import Derived.OwnWalkIn
import Derived.LoopNIn
import Derived.LoopIn
set_option linter.all false
namespace Go.Proofs.YtiinlplgloaanaaGreatDoor
open Go.RowKit
theorem _root_.Go.RowKit.Hid.o {p:Prop} (h:Hid p):p:=h
theorem _root_.Go.RowKit.Below.tm {a b c:World} (h:Below a.heap.size a b) (k:Below b.heap.size b c):Below a.heap.size a c:=h.trans (k.mono h.size)
abbrev _root_.Go.Proofs.Bw (w:World):=Below w.heap.size w
@[reducible] def FW (ro:Option Nat):Fence:={ fn:=λ _=>True,depth:=none,alive:=false,round:=ro }
theorem zy {ro:Option Nat} {P:Program} {f:FuncId} {args:Array Value} {w:World} {R:Ending->World->Prop}:CallsIn (FW ro) 0 P f args w R↔Calls P f args w R:=by
 have h:CallsIn (FW ro) 0 P f args w R↔CallsIn Fence.wide 0 P f args w R:=Iff.rfl;exact h.trans callsIn_wide
structure Ext (B:Nat) (W W':World):Prop where
 os:W'.os=W.os
 tape:W'.tape=W.tape
 output:W'.output=W.output
 size:W.heap.size<=W'.heap.size
 block:∀ (b:Nat) (o:Obj),W.heap[b]?=some o->(b<B\/o.isCells=true)->W'.heap[b]?=some o
theorem Ext.refl (B:Nat) (W:World):Ext B W W:=⟨rfl,rfl,rfl,Nat.le_refl _,λ _ _ h _=>h⟩
theorem Ext.trans {B:Nat} {X Y Z:World} (h:Ext B X Y) (k:Ext B Y Z):Ext B X Z :=
 ⟨k.os.trans h.os,k.tape.trans h.tape,k.output.trans h.output,Nat.le_trans h.size k.size,λ b o hb ho=>k.block b o (h.block b o hb ho) ho⟩
theorem Ext.of_below {B:Nat} {W W':World} (h:Below W.heap.size W W'):Ext B W W' :=
 ⟨h.os,h.tape,h.output,h.size,λ b _ hb _=>(h.block b (Array.getElem?_eq_some_iff.1 hb).1).trans hb⟩
theorem Ext.putObj {B:Nat} {W:World} {l:Nat} {o o':Obj} (hl:W.heap[l]?=some o) (hB:B<=l) (ho:o.isCells=false):Ext B W (W.putObj l o') :=
 ⟨rfl,rfl,rfl,by simp,λ b p hb hp=>by
  have:b≠l:=by
   rintro rfl;rw[hl]at hb;cases hb;rcases hp with hp|hp
   ·omega
   rw[ho]at hp;cases hp
  rw[World.putObj_heap_other this];exact hb⟩
def Stab (B:Nat) (I:World->Prop):Prop:=∀ W W',I W->Ext B W W'->I W'
theorem Stab.and {B:Nat} {I J:World->Prop} (h:Stab B I) (k:Stab B J):Stab B (λ W=>I W/\J W):=λ W W' ⟨a,b⟩ e=>⟨h W W' a e,k W W' b e⟩
theorem Stab.ex {B:Nat} {α:Type} {I:α->World->Prop} (h:∀ a,Stab B (I a)):Stab B (λ W=>∃ a,I a W):=λ W W' ⟨a,b⟩ e=>⟨a,h a W W' b e⟩
theorem Stab.pure (B:Nat) (p:Prop):Stab B (λ _=>p):=λ _ _ h _=>h
theorem Stab.false (B:Nat):Stab B (λ _=>False):=λ _ _ h _=>h
theorem Stab.cells (B b:Nat) (c:Array Value) (T:TypeId) (f:Nat × Nat):Stab B (λ W=>W.heap[b]?=some (.cells c T f)):=λ _ _ h e=>e.block b _ h (.inr rfl)
theorem Stab.obj {B b:Nat} (h:b<B) (o:Obj):Stab B (λ W=>W.heap[b]?=some o):=λ _ _ k e=>e.block b _ k (.inl h)
theorem Stab.boxed (B b:Nat) (T:TypeId) (v:Value):Stab B (λ W=>Boxed W b T v):=λ _ _ h e=>e.block b _ h (.inr rfl)
theorem Stab.below {B B':Nat} {w0:World} (h:B'<=B) (h':B'<=w0.heap.size):Stab B (λ W=>Below B' w0 W):=λ W W' hb e=>by
 refine⟨e.os.trans hb.os,e.tape.trans hb.tape,e.output.trans hb.output,Nat.le_trans hb.size e.size,λ k hk=>?_⟩;have h1:k<W.heap.size:=Nat.lt_of_lt_of_le (Nat.lt_of_lt_of_le hk h') hb.size;rw[e.block k _ (Array.getElem?_eq_getElem h1) (.inl (by omega)),<- hb.block k hk,Array.getElem?_eq_getElem h1]
theorem Stab.owns (B base:Nat) (e:TypeId) (size:Nat) (v:Value) (n:Nat) (xs:List Value):Stab B (λ W=>W.ownsRow base e size v n xs):=λ W W' h k=>by
 obtain⟨h1,h2⟩:=h;refine⟨h1,?_⟩;rcases h2 with h2|⟨g,cap,cur,hv,hg,hh,r⟩
 ·exact Or.inl h2
 exact Or.inr ⟨g,cap,cur,hv,hg,k.block g _ hh (.inr rfl),r⟩
def IterS (P:Program) (gf:Nat) (mk:Value->Array Value) (xs:List (Array Value)):Prop :=
 ∀ (l:Nat) (J:Nat->World->Prop) (Jx:World->Prop) (W:World),
  (∀ k W W',J k W->Below W.heap.size W W'->J k W')->(∀ W W',Jx W->Below W.heap.size W W'->Jx W') ->
  (∀ k args W1,xs[k]?=some args->J k W1->YieldAt (FW none) 0 P l args W1 λ e W'=>(e=.returned (.bool true)/\J (k+1) W')\/(e=.returned (.bool false)/\Jx W')) ->
  J 0 W->CallsIn (FW none) 0 P gf (mk (.func (.yield l) #[] #[])) W λ e W'=>(∃ v,e=.returned v)/\(J xs.length W'\/Jx W')
def rPost (B:Nat) (I:Nat->World->Prop) (Ix:Code->World->Prop) (k:Nat) (W:World):Exit->Act->World->Prop
 | .normal,_,W'=>KeepsFrom B W W'/\I (k+1) W'
 | .ret,_,W'=>KeepsFrom B W W'/\Ix .ret W'
 | .exit id,_,W'=>KeepsFrom B W W'/\Ix (.exit id) W'
 | .goto t,_,W'=>KeepsFrom B W W'/\Ix (.goto t) W'
 | .panic _,_,_=>False
 | .outgrown,_,_=>False
def RMark (B:Nat) (ro:Option Nat) (ds:List Deferred) (W:World):Prop :=
 match ro with
 | none=>∃ D,B<=D/\ds=[{ target:=.collected D,args:=#[] }]/\W.heap[D]?=some (.deferred (some []))
 | some _=>ds=[]
theorem DK {P:Program} {ro:Option Nat} {g:Operand} {ps:Array Tmp} {assign body:Code} {Q:Exit->Act->World->Prop} {a:Act} {w:World} {gf:Nat} {mk:Value->Array Value} {xs:List (Array Value)}
  (hro:∀ l0,ro=some l0->∃ r0,w.heap[l0]?=some (.loop r0))
  (hg:∀ (l:Nat) (W:World),∃ d,(resolve a.eval (rangeCall g l) 0).run P W=.ok d W/\(invoke d.target d.args).run P W=.ok (.enter gf (mk (.func (.yield l) #[] #[]))) W)
  (hit:IterS P gf mk xs) (hps:∀ x∈xs,x.size=ps.size)
  (I:Nat->World->Prop) (Ix:Code->World->Prop) (hI:∀ k,Stab w.heap.size (I k)) (hIx:∀ c,Stab w.heap.size (Ix c)) (h0:I 0 w)
  (hround:∀ (l k:Nat) (x:Array Value) (W:World),xs[k]?=some x->I k W->w.heap.size<=l->(∃ r,W.heap[l]?=some (.loop r)) ->
   assign.wpIn (FW (some l)) 0 P (Exit.then (λ a' W'=>∃ X:World->Prop,Stab w.heap.size X/\KeepsFrom w.heap.size W W'/\X W' /\
     ∀ W2,X W2->(∃ r,W2.heap[l]?=some (.loop r))->body.wpIn (FW (some l)) 0 P (rPost w.heap.size I Ix k W2) a' W2) (λ _ _ _=>False))
    { tmps:=(ps.zip x).foldl (λ t (p,v)=>t.setIfInBounds p v) a.tmps,defers:=[] } W)
  (hdone:∀ ds W,RMark w.heap.size ro ds W->I xs.length W->Q .normal { a with defers:=ds++a.defers } W)
  (hstop:∀ ds c W,RMark w.heap.size ro ds W->Ix c W->c.wpIn (FW ro) 0 P Q { a with defers:=ds++a.defers } W) :
  (Code.rangeFunc g ps assign body).wpIn (FW ro) 0 P Q a w:=by
 refine wpIn_rangeFunc ?_;intro fn hfn;obtain⟨D,l,ds,S,B,C,U,V,A0,s,n,A⟩:∃ (D l:Nat) (ds:List Deferred) (S:World) (B:LoopState->Option Code->Loop),
   (w.heap.size<=l)/\(D≠l)/\(Instr.enterLoop fn a.tmps ps assign body (FW ro).round).run P w=.ok (l,ds) S/\S.heap[l]?=some (.loop (B .ready none))/\Ext w.heap.size w S /\
   (∀ W,(ro=none->W.heap[D]?=some (.deferred (some [])))->RMark w.heap.size ro ds W) /\
   ((ro=none->w.heap.size<=D/\S.heap[D]?=some (.deferred (some [])))/\∀ L pe,(B L pe).state=L/\(B L pe).pending=pe/\(B L pe).fn=fn/\(B L pe).tmps=a.tmps/\(B L pe).params=ps/\(B L pe).assign=assign/\(B L pe).body=body /\
    ∀ st' pe',{ B L pe with state:=st',pending:=pe' }=B st' pe'):=by
  cases ro with
  | none =>
   refine⟨w.heap.size,w.heap.size+1,[{ target:=.collected w.heap.size,args:=#[] }],_,λ L pe=>{ state:=L,pending:=pe,fn,tmps:=a.tmps,params:=ps,assign,body,defers:=w.heap.size },by omega,by omega,run_enterLoop_outer _ _ _ _ _,?_,?_,?_,?_,?_⟩
   ·have:=World.alloc_heap_new (w.alloc (.deferred (some []))) (.loop { state:=.ready,pending:=none,fn,tmps:=a.tmps,params:=ps,assign,body,defers:=w.heap.size });rwa [World.size_alloc]at this
   ·exact Ext.of_below (((Below.refl _ w).alloc (Nat.le_refl _) _).alloc (by simp) _)
   ·intro W h;exact⟨w.heap.size,Nat.le_refl _,rfl,h rfl⟩
   ·intro _;exact⟨Nat.le_refl _,(Below.heap_alloc _ _ _ (by simp)).trans (World.alloc_heap_new w _)⟩
   intro L pe;exact⟨rfl,rfl,rfl,rfl,rfl,rfl,rfl,λ _ _=>rfl⟩
  | some l0 =>
   obtain⟨r0,y⟩:=hro l0 rfl;refine⟨w.heap.size+1,w.heap.size,[],_,λ L pe=>{ state:=L,pending:=pe,fn,tmps:=a.tmps,params:=ps,assign,body,defers:=r0.defers },Nat.le_refl _,by omega,run_enterLoop_inner y _ _ _ _ _,?_,?_,?_,?_,?_⟩
   ·exact World.alloc_heap_new w _
   ·exact Ext.of_below ((Below.refl _ w).alloc (Nat.le_refl _) _)
   ·intro W _;exact rfl
   ·intro h;cases h
   intro L pe;exact⟨rfl,rfl,rfl,rfl,rfl,rfl,rfl,λ _ _=>rfl⟩
 obtain⟨f,A⟩:=A;obtain⟨d,m,q⟩:=hg l S;refine⟨l,ds,S,d,S,gf,_,S,V,m,λ _ _=>trivial,q,λ h=>by simp at h,?_⟩;have Z:=hit l
  (λ k W=>I k W/\W.heap[l]?=some (.loop (B .ready none))/\(ro=none->W.heap[D]?=some (.deferred (some []))))
  (λ W=>∃ c,Ix c W/\W.heap[l]?=some (.loop (B .done (some c)))/\(ro=none->W.heap[D]?=some (.deferred (some []))))
  S
  (λ k W W' ⟨h1,b,h3⟩ hb=>⟨hI k W W' h1 (Ext.of_below hb),(hb.block l (Array.getElem?_eq_some_iff.1 b).1).trans b,λ e=>(hb.block D (Array.getElem?_eq_some_iff.1 (h3 e)).1).trans (h3 e)⟩)
  (λ W W' ⟨c,h1,b,h3⟩ hb=>⟨c,hIx c W W' h1 (Ext.of_below hb),(hb.block l (Array.getElem?_eq_some_iff.1 b).1).trans b,λ e=>(hb.block D (Array.getElem?_eq_some_iff.1 (h3 e)).1).trans (h3 e)⟩)
  ?_ ⟨hI 0 w S h0 s,A0,λ e=>(f e).2⟩
 ·refine CallsIn.mono (F:=FW ro) (R:=_) Z ?_;rintro e W2 ⟨⟨v,rfl⟩,(⟨hi,hl,hk⟩|⟨c,hi,hl,hk⟩)⟩
  ·have J:=run_endLoop (P:=P) hl (by rw[(A _ _).1];simp);rw[(A _ _).2.1]at J;refine⟨none,_,J,hdone ds _ (n _ λ e=>?_) (hI _ _ _ hi (Ext.putObj hl C rfl))⟩;rw[World.putObj_heap_other U];exact hk e
  have J:=run_endLoop (P:=P) hl (by rw[(A _ _).1];simp);rw[(A _ _).2.1]at J;refine⟨some c,_,J,hstop ds c _ (n _ λ e=>?_) (hIx _ _ _ hi (Ext.putObj hl C rfl))⟩;rw[World.putObj_heap_other U];exact hk e
 ·-- one round
  rintro k x W hx ⟨hi,hl,hk⟩;have A1:x∈xs:=List.mem_of_getElem? hx;have hy:=run_yield (P:=P) (args:=x) hl (by rw[(A _ _).2.2.2.2.1];exact hps x A1);rw[(A _ _).2.2.1,(A _ _).2.2.2.1,(A _ _).2.2.2.2.1,(A _ _).2.2.2.2.2.1,(A _ _).2.2.2.2.2.2.1]at hy;refine⟨fn,_,assign,body,hy,roundIn_of_wpIn (F:=FW none) hfn ?_⟩;have hA:=hround l k x W hx hi C ⟨_,hl⟩;refine wpIn_mono hA ?_;intro e a' Wa hp
  cases e with
  | normal =>
   obtain⟨X,hX,O,A3,Y⟩:=hp;have j:=O.same l _ C hl rfl;have A4:ro=none->Wa.heap[D]?=some (.deferred (some [])):=λ e=>O.same D _ (f e).1 (hk e) rfl;refine⟨_,run_beginRound j (by rw[(A _ _).1]),?_⟩;have e1:({ B .ready none with state:=.busy }:Loop)=B .busy none:=by
    have h8:=(A .ready none).2.2.2.2.2.2.2 .busy none;have b:=(A .ready none).2.1;simp only[b];exact h8
   rw[e1];have z:l<Wa.heap.size:=(Array.getElem?_eq_some_iff.1 j).1;have o:(Wa.putObj l (.loop (B .busy none))).heap[l]?=some (.loop (B .busy none)):=World.putObj_heap_same z;have A2:ro=none->(Wa.putObj l (.loop (B .busy none))).heap[D]?=some (.deferred (some [])):=λ e=>(World.putObj_heap_other U).trans (A4 e);refine wpIn_mono (Y _ (hX _ _ A3 (Ext.putObj j C rfl)) ⟨_,o⟩) ?_;have T:∀ (jump:Option Code) (W3:World),KeepsFrom w.heap.size (Wa.putObj l (.loop (B .busy none))) W3 ->
     W3.heap[l]?=some (.loop (B .busy none)) /\
     (Instr.endRound l jump).run P W3=.ok (.bool jump.isNone) (W3.putObj l (.loop (B (if jump.isNone then .ready else .done) jump))) /\
     (W3.putObj l (.loop (B (if jump.isNone then .ready else .done) jump))).heap[l]?=some (.loop (B (if jump.isNone then .ready else .done) jump)) /\
     (ro=none->(W3.putObj l (.loop (B (if jump.isNone then .ready else .done) jump))).heap[D]?=some (.deferred (some []))):=λ jump W3 H=>by
    have G:=H.same _ _ C o rfl;have h4:=run_endRound (P:=P) jump G;rw[(A .busy none).2.2.2.2.2.2.2]at h4;exact⟨G,h4,World.putObj_heap_same (Array.getElem?_eq_some_iff.1 G).1,λ e=>(World.putObj_heap_other U).trans (H.same _ _ (f e).1 (A2 e) rfl)⟩
   intro e a3 W3 hp
   cases e with
   | normal =>
    obtain⟨H,M⟩:=hp;obtain⟨G,i,N,K⟩:=T none W3 H;exact⟨_,_,i,.inl ⟨rfl,hI _ _ _ M (Ext.putObj G C rfl),N,K⟩⟩
   | ret =>
    obtain⟨H,M⟩:=hp;obtain⟨G,i,N,K⟩:=T (some .ret) W3 H;exact⟨_,_,i,.inr ⟨rfl,.ret,hIx _ _ _ M (Ext.putObj G C rfl),N,K⟩⟩
   | exit id =>
    obtain⟨H,M⟩:=hp;obtain⟨G,i,N,K⟩:=T (some (.exit id)) W3 H;exact⟨_,_,i,.inr ⟨rfl,.exit id,hIx _ _ _ M (Ext.putObj G C rfl),N,K⟩⟩
   | goto t =>
    obtain⟨H,M⟩:=hp;obtain⟨G,i,N,K⟩:=T (some (.goto t)) W3 H;exact⟨_,_,i,.inr ⟨rfl,.goto t,hIx _ _ _ M (Ext.putObj G C rfl),N,K⟩⟩
   | panic ch=>exact hp.elim
   | outgrown=>exact hp.elim
  | exit id=>exact hp.elim
  | goto t=>exact hp.elim
  | ret=>exact hp.elim
  | panic ch=>exact hp.elim
  | outgrown=>exact hp.elim
theorem CL {P:Program} {ro:Option Nat} {g:Operand} {ps:Array Tmp} {assign body:Code} {Q:Exit->Act->World->Prop} {a:Act} {w:World} {gf:Nat} {mk:Value->Array Value} {xs:List (Array Value)}
  (hro:∀ l0,ro=some l0->∃ r0,w.heap[l0]?=some (.loop r0))
  (hg:∀ (l:Nat) (W:World),∃ d,(resolve a.eval (rangeCall g l) 0).run P W=.ok d W/\(invoke d.target d.args).run P W=.ok (.enter gf (mk (.func (.yield l) #[] #[]))) W)
  (hit:IterS P gf mk xs) (hps:∀ x∈xs,x.size=ps.size)
  (I:Nat->World->Prop) (Ix:Code->World->Prop) (hI:∀ k,Stab w.heap.size (I k)) (hIx:∀ c,Stab w.heap.size (Ix c)) (h0:I 0 w)
  (hround:∀ (l k:Nat) (x:Array Value) (W:World),xs[k]?=some x->w.heap.size<=l ->
   assign.wpIn (FW (some l)) 0 P (Exit.then (λ a' W'=>W'=W /\
     ∀ W2,I k W2->(∃ r,W2.heap[l]?=some (.loop r))->body.wpIn (FW (some l)) 0 P (rPost w.heap.size I Ix k W2) a' W2) (λ _ _ _=>False))
    { tmps:=(ps.zip x).foldl (λ t (p,v)=>t.setIfInBounds p v) a.tmps,defers:=[] } W)
  (hdone:∀ ds W,RMark w.heap.size ro ds W->I xs.length W->Q .normal { a with defers:=ds++a.defers } W)
  (hstop:∀ ds c W,RMark w.heap.size ro ds W->Ix c W->c.wpIn (FW ro) 0 P Q { a with defers:=ds++a.defers } W) :
  (Code.rangeFunc g ps assign body).wpIn (FW ro) 0 P Q a w:=by
 refine DK hro hg hit hps I Ix hI hIx h0 (λ l k x W hx hi hl _=>?_) hdone hstop;refine wpIn_mono (hround l k x W hx hl) ?_;intro e a' W' h
 cases e with
 | normal=>obtain⟨rfl,A⟩:=h;exact⟨I k,hI k,KeepsFrom.refl _ _,hi,A⟩
 | _=>exact h.elim
structure Took (Ds:List Nat) (w w':World):Prop where
 os:w'.os=w.os
 tape:w'.tape=w.tape
 output:w'.output=w.output
 size:w'.heap.size=w.heap.size
 block:∀ b,b∉Ds->w'.heap[b]?=w.heap[b]?
theorem Took.below {Ds:List Nat} {w w':World} (h:Took Ds w w') {B:Nat} (hB:∀ D∈Ds,B<=D):Below B w w' :=
 ⟨h.os,h.tape,h.output,Nat.le_of_eq h.size.symm,λ k hk=>h.block k (λ hm=>by have:=hB k hm;omega)⟩
def markOf (D:Nat):Deferred:={ target:=.collected D,args:=#[] }
theorem leavesM {P:Program} {fn:Func} {tmps:Array Value} {R:Ending->World->Prop}:∀ (Ds:List Nat) (w:World),Ds.Nodup->(∀ D∈Ds,w.heap[D]?=some (.deferred (some []))) ->
  (∀ w',Took Ds w w'->∃ v,(results fn tmps).run P w'=.ok v w'/\R (.returned v) w')->LeavesInM (FW none) 0 P fn tmps R (Ds.map markOf) .returning w
 | [],w,_,_,h=>h w ⟨rfl,rfl,rfl,rfl,λ _ _=>rfl⟩
 | D :: Ds,w,hn,hd,h=>by
  rw[List.nodup_cons]at hn;refine⟨by simp,.inl ⟨D,_,rfl,run_takeDeferred (hd D (by simp)),?_⟩⟩;refine leavesM Ds _ hn.2 (λ E hE=>?_) (λ w' hw'=>h w' ?_)
  ·have:E≠D:=λ e=>hn.1 (e▸hE);rw[World.putObj_heap_other this];exact hd E (by simp[hE])
  refine⟨hw'.os,hw'.tape,hw'.output,by rw[hw'.size];simp,λ b hb=>?_⟩;simp only[List.mem_cons,not_or]at hb;rw[hw'.block b hb.2,World.putObj_heap_other hb.1]
def rfPost (P:Program) (fn:Func) (R:Ending->World->Prop):Exit->Act->World->Prop
 | .normal,a,w | .ret,a,w=>∃ Ds:List Nat,a.defers=Ds.map markOf/\Ds.Nodup/\(∀ D∈Ds,w.heap[D]?=some (.deferred (some []))) /\
   ∀ w',Took Ds w w'->∃ v,(results fn a.tmps).run P w'=.ok v w'/\R (.returned v) w'
 | _,_,_=>False
theorem aR {P:Program} {f:FuncId} {fn:Func} {c:Code} {args:Array Value} {w:World} {R:Ending->World->Prop}
  (hf:P.funcs[f]?=some fn) (hb:fn.body=some c)
  (h:c.wpIn (FW none) 0 P (rfPost P fn R) { tmps:=args++Array.replicate (fn.ntmps-args.size) undef,defers:=[] } w):Calls P f args w R:=by
 refine zy.1 (callsIn_of_wp_marks (F:=FW none) hf hb trivial (wpIn_mono h ?_));intro e a w hp
 cases e with
 | normal=>obtain⟨G,B,A,C,D⟩:=hp;show LeavesInM _ _ _ _ _ _ _ _ _;rw[B];exact leavesM G w A C D
 | ret=>obtain⟨G,B,A,C,D⟩:=hp;show LeavesInM _ _ _ _ _ _ _ _ _;rw[B];exact leavesM G w A C D
 | _=>exact hp.elim
end Go.Proofs.YtiinlplgloaanaaGreatDoor
namespace Go.Proofs
open Go.RowKit
abbrev ya:=@Array.getElem?_eq_some_iff
abbrev yb:=@List.getElem?_eq_getElem
abbrev yc:=@List.getElem?_eq_some_iff
abbrev yd:=@World.alloc_heap_new
abbrev ye:=@Nat.le_refl
abbrev yf:=@Below.refl
abbrev yg:=@List.mem_of_getElem?
abbrev yh:=@List.take_succ_cons
abbrev yi:=@List.drop_succ_cons
abbrev yj:=@List.take_zero
abbrev yl:=@List.drop_zero
abbrev yo:=@Option.some.injEq
abbrev yp:=@World.size_alloc
abbrev yq:=@heap_setCell_other
abbrev yr:=@List.setIfInBounds_toArray
abbrev yu:=@List.getD_eq_getElem?_getD
abbrev yv:=@decide_eq_false
abbrev yw:=@decide_eq_true
abbrev yz:=@Result.andThen_ok
abbrev yA:=@List.length_cons
abbrev yB:=@List.length_map
abbrev yC:=@Value.slice.injEq
abbrev yD:=@Array.getElem?_eq_getElem
abbrev yE:=@List.set_cons_succ
abbrev yF:=@List.set_cons_zero
abbrev yG:=@Sem.run_bind
abbrev yH:=@Sem.run_pure
abbrev yI:=@heap_setCell_same
abbrev yJ:=@Nat.le_trans
abbrev yK:=@Lib.hid
abbrev yL:=@List.length_append
abbrev yM:=@List.map_cons
abbrev yN:=@List.length_nil
abbrev yO:=@Nat.lt_of_lt_of_le
abbrev yP:=@List.mem_map
abbrev yQ:=@List.getElem?_map
abbrev yR:=@World.putObj_heap_other
abbrev yS:=@decide_eq_true_eq
abbrev yT:=@List.length_eq_zero_iff
abbrev yU:=@List.mem_singleton
abbrev yV:=@List.getElem?_of_mem
abbrev yW:=@List.getElem?_append_right
abbrev yX:=@List.getElem?_append_left
abbrev yY:=@List.mem_append
abbrev yZ:=@List.length_range
abbrev Ya:=@wpList_load_row
abbrev Yb:=@bodyPost_ret
abbrev Yc:=@List.take_length
abbrev Yd:=@List.mem_cons
abbrev Ye:=@List.length_take
abbrev Yf:=@List.cons_append
abbrev Yg:=@Obj.cells.injEq
abbrev Yh:=@List.map_nil
abbrev Yi:=@Nat.le_of_ble_eq_true
abbrev Yj:=@List.nil_append
abbrev Yk:=@List.range_succ
abbrev Yl:=@List.map_append
abbrev Ym:=@List.mem_cons_of_mem
abbrev Yn:=@Bool.false_eq_true
abbrev Yo:=@Array.all_eq_true_iff_forall_mem
abbrev Yp:=@Array.getElem?_toList
abbrev Yq:=@Bool.and_eq_true
abbrev Yr:=@List.take_succ_eq_append_getElem
abbrev Ys:=@beq_eq_false_iff_ne
abbrev Yt:=@List.map_toArray
abbrev Yu:=@List.foldl_cons
abbrev Yv:=@Option.getD_some
abbrev Yw:=@Array.getD_eq_getD_getElem?
abbrev Yx:=@List.mem_of_mem_take
abbrev Yy:=@if_neg
abbrev Yz:=@if_pos
abbrev YA:=@congrArg
abbrev YB:=@Nat.zero_le
abbrev YC:=@List.foldl_nil
abbrev YD:=@List.range_zero
abbrev YE:=@Nat.le_succ
abbrev YF:=@List.exists_mem_of_ne_nil
abbrev YG:=@List.drop_eq_getElem_cons
abbrev YH:=@List.all_eq_true
abbrev YI:=@Int.toNat_natCast
abbrev YJ:=@List.pairwise_iff_getElem
abbrev YK:=@List.size_toArray
abbrev YL:=@Bool.eq_iff_iff
abbrev YM:=@Nat.zero_add
abbrev YN:=@List.any_eq_true
abbrev YO:=@List.getElem_of_mem
abbrev YP:=@And.intro
abbrev YQ:=@List.pairwise_cons
abbrev YR:=@Array.replicate_zero
abbrev YS:=@Array.replicate_succ
abbrev YT:=@List.flatMap_cons
abbrev YU:=@List.getElem?_take
abbrev YV:=@List.append_toArray
abbrev YW:=@Prod.mk.injEq
abbrev YX:=@Option.some.inj
abbrev YY:=@List.cons.injEq
abbrev YZ:=@List.mem_filter
abbrev ke:=@Bool.not_eq_true'
abbrev kf:=@List.filter_append
abbrev kg:=@Nat.lt_or_ge
abbrev kh:=@Bool.or_eq_true
abbrev ki:=@List.not_mem_nil
abbrev kj:=@Array.getElem?_setIfInBounds
abbrev kl:=@List.map_map
abbrev km:=@List.push_toArray
abbrev ko:=@List.nodup_append
abbrev kq:=@List.getElem?_eq_none
abbrev kr:=@Option.map_some
abbrev kt:=@List.foldl_append
abbrev ku:=@List.mem_flatten
abbrev kw:=@List.append_assoc
abbrev ky:=@Array.getElem?_eq_none
abbrev kz:=@World.ownsRow_nil
abbrev kA:=@List.mem_take_iff_getElem
abbrev kB:=@List.filter_cons
abbrev kC:=@List.getElem?_zip_eq_some
abbrev kD:=@Nat.lt_succ_self
abbrev kE:=@decide_eq_decide
abbrev kF:=@Array.mem_of_getElem?
abbrev kG:=@List.getElem?_range
abbrev kH:=@List.getElem_mem
abbrev kI:=@Nat.add_sub_cancel
abbrev kJ:=@List.getElem?_cons_succ
abbrev kK:=@List.getElem?_cons_zero
abbrev kL:=@List.getElem?_append
abbrev kM:=@List.take_of_length_le
abbrev kN:=@List.drop_length
abbrev kO:=@List.mem_range
abbrev kP:=@List.getElem?_drop
abbrev kQ:=@Nat.add_assoc
abbrev kR:=@List.find?_eq_none
abbrev kS:=@List.filterMap_cons
abbrev kT:=@Bool.and_true
abbrev kU:=@Bool.true_and
abbrev kV:=@absurd
abbrev kW:=@List.pairwise_append
abbrev kX:=@List.mem_flatMap
abbrev kY:=@List.sum_cons
abbrev kZ:=@List.filter_nil
abbrev Ka:=@List.length_filter_le
abbrev Kb:=@List.map_congr_left
abbrev Kc:=@List.map_id
abbrev Kd:=@List.ext_getElem?
abbrev Ke:=@Int.natCast_add
