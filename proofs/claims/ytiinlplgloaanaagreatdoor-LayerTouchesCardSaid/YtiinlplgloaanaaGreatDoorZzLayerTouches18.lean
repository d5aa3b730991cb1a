/- A range over a function whose iterator keeps a block of its own between two rounds. -/
import Derived.Test.YtiinlplgloaanaaGreatDoorZzLayerTouches17
set_option linter.all false
namespace Go.Proofs.YtiinlplgloaanaaGreatDoor
open Go.RowKit
def IterG (P:Program) (gf:Nat) (mk:Value->Array Value) (xs:List (Array Value)):Prop :=
 ∀ (l:Nat) (J:Nat->Nat->World->Prop) (Jx:World->Prop) (W:World),
  (∀ b k W W',J b k W->Bw W W'->J b k W')->(∀ W W',Jx W->Bw W W'->Jx W') ->
  (∀ b k args W1 o,xs[k]?=some args->J b k W1->W.heap.size<=b->W1.heap[b]?=some o->o.isCells=true ->
   YieldAt (FW none) 0 P l args W1 λ e W'=>(e=.returned (.bool true)/\J b (k+1) W'/\W'.heap[b]?=some o)\/(e=.returned (.bool false)/\Jx W')) ->
  (∀ b W',W.heap.size<=b->Bw W W'->J b 0 W')->CallsIn (FW none) 0 P gf (mk (.func (.yield l) #[] #[])) W λ e W'=>(∃ v,e=.returned v)/\((∃ b,J b xs.length W')\/Jx W')
def rPostG (B:Nat) (I:Nat->Nat->World->Prop) (Ix:Code->World->Prop) (b k:Nat) (o:Obj) (W:World):Exit->Act->World->Prop
 | .normal,_,W'=>KeepsFrom B W W'/\I b (k+1) W'/\W'.heap[b]?=some o
 | .ret,_,W'=>KeepsFrom B W W'/\Ix .ret W'
 | .exit id,_,W'=>KeepsFrom B W W'/\Ix (.exit id) W'
 | .goto t,_,W'=>KeepsFrom B W W'/\Ix (.goto t) W'
 | .panic _,_,_=>False
 | .outgrown,_,_=>False
theorem rF {P:Program} {ro:Option Nat} {g:Operand} {ps:Array Tmp} {assign body:Code} {Q:Exit->Act->World->Prop} {a:Act} {w:World} {gf:Nat} {mk:Value->Array Value} {xs:List (Array Value)}
  (hro:∀ l0,ro=some l0->∃ r0,w.heap[l0]?=some (.loop r0))
  (hg:∀ (l:Nat) (W:World),∃ d,(resolve a.eval (rangeCall g l) 0).run P W=.ok d W/\(invoke d.target d.args).run P W=.ok (.enter gf (mk (.func (.yield l) #[] #[]))) W)
  (hit:IterG P gf mk xs) (hps:∀ x∈xs,x.size=ps.size)
  (I:Nat->Nat->World->Prop) (Ix:Code->World->Prop) (hI:∀ b k,Stab w.heap.size (I b k)) (hIx:∀ c,Stab w.heap.size (Ix c)) (h0:∀ b W',w.heap.size<=b->Ext w.heap.size w W'->I b 0 W')
  (hround:∀ (b l k:Nat) (x:Array Value) (W:World) (o:Obj),xs[k]?=some x->I b k W->w.heap.size<=l->l<b->(∃ r,W.heap[l]?=some (.loop r))->W.heap[b]?=some o->o.isCells=true ->
   assign.wpIn (FW (some l)) 0 P (Exit.then (λ a' W'=>∃ X:World->Prop,Stab w.heap.size X/\KeepsFrom w.heap.size W W'/\X W'/\W'.heap[b]?=some o /\
     ∀ W2,X W2->(∃ r,W2.heap[l]?=some (.loop r))->W2.heap[b]?=some o->body.wpIn (FW (some l)) 0 P (rPostG w.heap.size I Ix b k o W2) a' W2) (λ _ _ _=>False))
    { tmps:=(ps.zip x).foldl (λ t (p,v)=>t.setIfInBounds p v) a.tmps,defers:=[] } W)
  (hdone:∀ b ds W,RMark w.heap.size ro ds W->I b xs.length W->Q .normal { a with defers:=ds++a.defers } W)
  (hstop:∀ ds c W,RMark w.heap.size ro ds W->Ix c W->c.wpIn (FW ro) 0 P Q { a with defers:=ds++a.defers } W) :
  (Code.rangeFunc g ps assign body).wpIn (FW ro) 0 P Q a w:=by
 refine wpIn_rangeFunc ?_;intro fn hfn;obtain⟨D,l,ds,S,B,C,V,Y,f,q,y,A⟩:∃ (D l:Nat) (ds:List Deferred) (S:World) (B:LoopState->Option Code->Loop),
   (w.heap.size<=l)/\(D≠l)/\(Instr.enterLoop fn a.tmps ps assign body (FW ro).round).run P w=.ok (l,ds) S/\S.heap[l]?=some (.loop (B .ready none))/\Ext w.heap.size w S /\
   (∀ W,(ro=none->W.heap[D]?=some (.deferred (some [])))->RMark w.heap.size ro ds W) /\
   ((ro=none->w.heap.size<=D/\S.heap[D]?=some (.deferred (some [])))/\∀ L pe,(B L pe).state=L/\(B L pe).pending=pe/\(B L pe).fn=fn/\(B L pe).tmps=a.tmps/\(B L pe).params=ps/\(B L pe).assign=assign/\(B L pe).body=body /\
    ∀ st' pe',{ B L pe with state:=st',pending:=pe' }=B st' pe'):=by
  cases ro with
  | none =>
   refine⟨w.heap.size,w.heap.size+1,[{ target:=.collected w.heap.size,args:=#[] }],_,λ L pe=>{ state:=L,pending:=pe,fn,tmps:=a.tmps,params:=ps,assign,body,defers:=w.heap.size },by omega,by omega,run_enterLoop_outer _ _ _ _ _,?_,?_,?_,?_,?_⟩
   ·have:=yd (w.alloc (.deferred (some []))) (.loop { state:=.ready,pending:=none,fn,tmps:=a.tmps,params:=ps,assign,body,defers:=w.heap.size });rwa [yp]at this
   ·exact Ext.of_below (((yf _ w).alloc (ye _) _).alloc (by simp) _)
   ·intro W h;exact⟨w.heap.size,ye _,rfl,h rfl⟩
   ·intro _;exact⟨ye _,(Below.heap_alloc _ _ _ (by simp)).trans (yd w _)⟩
   intro L pe;exact⟨rfl,rfl,rfl,rfl,rfl,rfl,rfl,λ _ _=>rfl⟩
  | some l0 =>
   obtain⟨r0,A3⟩:=hro l0 rfl;refine⟨w.heap.size+1,w.heap.size,[],_,λ L pe=>{ state:=L,pending:=pe,fn,tmps:=a.tmps,params:=ps,assign,body,defers:=r0.defers },ye _,by omega,run_enterLoop_inner A3 _ _ _ _ _,?_,?_,?_,?_,?_⟩
   ·exact yd w _
   ·exact Ext.of_below ((yf _ w).alloc (ye _) _)
   ·intro W _;exact rfl
   ·intro h;cases h
   intro L pe;exact⟨rfl,rfl,rfl,rfl,rfl,rfl,rfl,λ _ _=>rfl⟩
 obtain⟨U,A⟩:=A;obtain⟨d,s,A1⟩:=hg l S;refine⟨l,ds,S,d,S,gf,_,S,Y,s,λ _ _=>trivial,A1,λ h=>by simp at h,?_⟩;have i:=hit l
  (λ b k W=>I b k W/\W.heap[l]?=some (.loop (B .ready none))/\(ro=none->W.heap[D]?=some (.deferred (some []))))
  (λ W=>∃ c,Ix c W/\W.heap[l]?=some (.loop (B .done (some c)))/\(ro=none->W.heap[D]?=some (.deferred (some []))))
  S
  (λ b k W W' ⟨h1,j,h3⟩ hb=>⟨hI b k W W' h1 (Ext.of_below hb),(hb.block l (ya.1 j).1).trans j,λ e=>(hb.block D (ya.1 (h3 e)).1).trans (h3 e)⟩)
  (λ W W' ⟨c,h1,j,h3⟩ hb=>⟨c,hIx c W W' h1 (Ext.of_below hb),(hb.block l (ya.1 j).1).trans j,λ e=>(hb.block D (ya.1 (h3 e)).1).trans (h3 e)⟩)
  ?_ (λ b W' hb hB=>⟨h0 b W' (yJ q.size hb) (q.trans (Ext.of_below hB)),(hB.block l (ya.1 f).1).trans f,λ e=>(hB.block D (ya.1 (U e).2).1).trans (U e).2⟩)
 ·refine CallsIn.mono (F:=FW ro) (R:=_) i ?_;rintro e W2 ⟨⟨v,rfl⟩,(⟨b,hi,hl,hk⟩|⟨c,hi,hl,hk⟩)⟩
  ·have J:=run_endLoop (P:=P) hl (by rw[(A _ _).1];simp);rw[(A _ _).2.1]at J;refine⟨none,_,J,hdone b ds _ (y _ λ e=>?_) (hI _ _ _ _ hi (Ext.putObj hl C rfl))⟩;rw[yR V];exact hk e
  have J:=run_endLoop (P:=P) hl (by rw[(A _ _).1];simp);rw[(A _ _).2.1]at J;refine⟨some c,_,J,hstop ds c _ (y _ λ e=>?_) (hIx _ _ _ hi (Ext.putObj hl C rfl))⟩;rw[yR V];exact hk e
 ·-- one round
  rintro b k x W o hx ⟨hi,hl,hk⟩ hbW hob hoc;have A5:l<b:=yO (ya.1 f).1 hbW;have A0:b≠l:=by omega
  have A6:x∈xs:=yg hx;have hy:=run_yield (P:=P) (args:=x) hl (by rw[(A _ _).2.2.2.2.1];exact hps x A6);rw[(A _ _).2.2.1,(A _ _).2.2.2.1,(A _ _).2.2.2.2.1,(A _ _).2.2.2.2.2.1,(A _ _).2.2.2.2.2.2.1]at hy;refine⟨fn,_,assign,body,hy,roundIn_of_wpIn (F:=FW none) hfn ?_⟩;have hA:=hround b l k x W o hx hi C A5 ⟨_,hl⟩ hob hoc;refine wpIn_mono hA ?_;intro e a' Wa hp
  cases e with
  | normal =>
   obtain⟨X,hX,O,A8,A2,Z⟩:=hp;have n:=O.same l _ C hl rfl;have B0:ro=none->Wa.heap[D]?=some (.deferred (some [])):=λ e=>O.same D _ (U e).1 (hk e) rfl;refine⟨_,run_beginRound n (by rw[(A _ _).1]),?_⟩;have e1:({ B .ready none with state:=.busy }:Loop)=B .busy none:=by
    have h8:=(A .ready none).2.2.2.2.2.2.2 .busy none;have j:=(A .ready none).2.1;simp only[j];exact h8
   rw[e1];have A4:l<Wa.heap.size:=(ya.1 n).1;have z:(Wa.putObj l (.loop (B .busy none))).heap[l]?=some (.loop (B .busy none)):=World.putObj_heap_same A4;have A7:ro=none->(Wa.putObj l (.loop (B .busy none))).heap[D]?=some (.deferred (some [])):=λ e=>(yR V).trans (B0 e);refine wpIn_mono (Z _ (hX _ _ A8 (Ext.putObj n C rfl)) ⟨_,z⟩ ((yR A0).trans A2)) ?_;have T:∀ (jump:Option Code) (W3:World),KeepsFrom w.heap.size (Wa.putObj l (.loop (B .busy none))) W3 ->
     W3.heap[l]?=some (.loop (B .busy none)) /\
     (Instr.endRound l jump).run P W3=.ok (.bool jump.isNone) (W3.putObj l (.loop (B (if jump.isNone then .ready else .done) jump))) /\
     (W3.putObj l (.loop (B (if jump.isNone then .ready else .done) jump))).heap[l]?=some (.loop (B (if jump.isNone then .ready else .done) jump)) /\
     (ro=none->(W3.putObj l (.loop (B (if jump.isNone then .ready else .done) jump))).heap[D]?=some (.deferred (some []))):=λ jump W3 H=>by
    have G:=H.same _ _ C z rfl;have h4:=run_endRound (P:=P) jump G;rw[(A .busy none).2.2.2.2.2.2.2]at h4;exact⟨G,h4,World.putObj_heap_same (ya.1 G).1,λ e=>(yR V).trans (H.same _ _ (U e).1 (A7 e) rfl)⟩
   intro e a3 W3 hp
   cases e with
   | normal =>
    obtain⟨H,M,A9⟩:=hp;obtain⟨G,m,N,K⟩:=T none W3 H;exact⟨_,_,m,.inl ⟨rfl,⟨hI _ _ _ _ M (Ext.putObj G C rfl),N,K⟩,(yR A0).trans A9⟩⟩
   | ret =>
    obtain⟨H,M⟩:=hp;obtain⟨G,m,N,K⟩:=T (some .ret) W3 H;exact⟨_,_,m,.inr ⟨rfl,.ret,hIx _ _ _ M (Ext.putObj G C rfl),N,K⟩⟩
   | exit id =>
    obtain⟨H,M⟩:=hp;obtain⟨G,m,N,K⟩:=T (some (.exit id)) W3 H;exact⟨_,_,m,.inr ⟨rfl,.exit id,hIx _ _ _ M (Ext.putObj G C rfl),N,K⟩⟩
   | goto t =>
    obtain⟨H,M⟩:=hp;obtain⟨G,m,N,K⟩:=T (some (.goto t)) W3 H;exact⟨_,_,m,.inr ⟨rfl,.goto t,hIx _ _ _ M (Ext.putObj G C rfl),N,K⟩⟩
   | panic ch=>exact hp.elim
   | outgrown=>exact hp.elim
  | exit id=>exact hp.elim
  | goto t=>exact hp.elim
  | ret=>exact hp.elim
  | panic ch=>exact hp.elim
  | outgrown=>exact hp.elim
