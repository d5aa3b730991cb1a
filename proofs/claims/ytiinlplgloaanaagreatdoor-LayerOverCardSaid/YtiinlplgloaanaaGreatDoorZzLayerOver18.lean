/- A range over a function whose iterator keeps a block of its own between two rounds. -/
import Derived.Test.YtiinlplgloaanaaGreatDoorZzLayerOver17
set_option linter.all false
namespace Go.Proofs.YtiinlplgloaanaaGreatDoor
open Go.RowKit
def IterG (P:Program) (gf:Nat) (mk:Value->Array Value) (xs:List (Array Value)):Prop :=
 ∀ (l:Nat) (J:Nat->Nat->World->Prop) (Jx:World->Prop) (W:World),
  (∀ b k W W',J b k W->Bw W W'->J b k W')->(∀ W W',Jx W->Bw W W'->Jx W') ->
  (∀ b k args W1 o,xs[k]?=some args->J b k W1->W.heap.size<=b->W1.heap[b]?=some o->o.isCells=true ->
   YieldAt (FW none) 0 P l args W1 λ e W'=>(e=.returned (.bool true)/\J b (k+1) W'/\W'.heap[b]?=some o)\/(e=.returned (.bool false)/\Jx W')) ->
  (∀ b W',W.heap.size<=b->Bw W W'->J b 0 W')->CallsIn (FW none) 0 P gf (mk (.func (.yield l) #[] #[])) W λ e W'=>(∃ v,e=.returned v)/\((∃ b,J b xs.length W')\/Jx W')
def rPostG (B:Nat) (I:Nat->Nat->World->Prop) (Ix:Code->World->Prop) (b k:Nat) (o:Obj) (W:World):Exit->Act->World->Prop
 | .normal,_,W'=>KeepsFrom B W W'/\I b (k+1) W'/\W'.heap[b]?=some o
 | .ret,_,W'=>KeepsFrom B W W'/\Ix .ret W'
 | .exit id,_,W'=>KeepsFrom B W W'/\Ix (.exit id) W'
 | .goto t,_,W'=>KeepsFrom B W W'/\Ix (.goto t) W'
 | .panic _,_,_=>False
 | .outgrown,_,_=>False
theorem ze2 {P:Program} {ro:Option Nat} {g:Operand} {ps:Array Tmp} {assign body:Code} {Q:Exit->Act->World->Prop} {a:Act} {w:World} {gf:Nat} {mk:Value->Array Value} {xs:List (Array Value)}
  (hro:∀ l0,ro=some l0->∃ r0,w.heap[l0]?=some (.loop r0))
  (hg:∀ (l:Nat) (W:World),∃ d,(resolve a.eval (rangeCall g l) 0).run P W=.ok d W/\(invoke d.target d.args).run P W=.ok (.enter gf (mk (.func (.yield l) #[] #[]))) W)
  (hit:IterG P gf mk xs) (hps:∀ x∈xs,x.size=ps.size)
  (I:Nat->Nat->World->Prop) (Ix:Code->World->Prop) (hI:∀ b k,Stab w.heap.size (I b k)) (hIx:∀ c,Stab w.heap.size (Ix c)) (h0:∀ b W',w.heap.size<=b->Ext w.heap.size w W'->I b 0 W')
  (hround:∀ (b l k:Nat) (x:Array Value) (W:World) (o:Obj),xs[k]?=some x->I b k W->w.heap.size<=l->l<b->(∃ r,W.heap[l]?=some (.loop r))->W.heap[b]?=some o->o.isCells=true ->
   assign.wpIn (FW (some l)) 0 P (Exit.then (λ a' W'=>∃ X:World->Prop,Stab w.heap.size X/\KeepsFrom w.heap.size W W'/\X W'/\W'.heap[b]?=some o /\
     ∀ W2,X W2->(∃ r,W2.heap[l]?=some (.loop r))->W2.heap[b]?=some o->body.wpIn (FW (some l)) 0 P (rPostG w.heap.size I Ix b k o W2) a' W2) (λ _ _ _=>False))
    { tmps:=(ps.zip x).foldl (λ t (p,v)=>t.setIfInBounds p v) a.tmps,defers:=[] } W)
  (hdone:∀ b ds W,RMark w.heap.size ro ds W->I b xs.length W->Q .normal { a with defers:=ds++a.defers } W)
  (hstop:∀ ds c W,RMark w.heap.size ro ds W->Ix c W->c.wpIn (FW ro) 0 P Q { a with defers:=ds++a.defers } W) :
  (Code.rangeFunc g ps assign body).wpIn (FW ro) 0 P Q a w:=by
 refine wpIn_rangeFunc ?_;intro fn hfn;obtain⟨D,l,ds,W1,B,C,U,O,f,m,j,A⟩:∃ (D l:Nat) (ds:List Deferred) (W1:World) (B:LoopState->Option Code->Loop),
   (w.heap.size<=l)/\(D≠l)/\(Instr.enterLoop fn a.tmps ps assign body (FW ro).round).run P w=.ok (l,ds) W1/\W1.heap[l]?=some (.loop (B .ready none))/\Ext w.heap.size w W1 /\
   (∀ W,(ro=none->W.heap[D]?=some (.deferred (some [])))->RMark w.heap.size ro ds W) /\
   ((ro=none->w.heap.size<=D/\W1.heap[D]?=some (.deferred (some [])))/\∀ st pe,(B st pe).state=st/\(B st pe).pending=pe/\(B st pe).fn=fn/\(B st pe).tmps=a.tmps/\(B st pe).params=ps/\(B st pe).assign=assign/\(B st pe).body=body /\
    ∀ st' pe',{ B st pe with state:=st',pending:=pe' }=B st' pe'):=by
  cases ro with
  | none =>
   refine⟨w.heap.size,w.heap.size+1,[{ target:=.collected w.heap.size,args:=#[] }],_,λ st pe=>{ state:=st,pending:=pe,fn,tmps:=a.tmps,params:=ps,assign,body,defers:=w.heap.size },by omega,by omega,run_enterLoop_outer _ _ _ _ _,?_,?_,?_,?_,?_⟩
   ·have:=yd (w.alloc (.deferred (some []))) (.loop { state:=.ready,pending:=none,fn,tmps:=a.tmps,params:=ps,assign,body,defers:=w.heap.size });rwa [yp]at this
   ·exact Ext.of_below (((yf _ w).alloc (ye _) _).alloc (by simp) _)
   ·intro W h;exact⟨w.heap.size,ye _,rfl,h rfl⟩
   ·intro _;exact⟨ye _,(Below.heap_alloc _ _ _ (by simp)).trans (yd w _)⟩
   intro st pe;exact⟨rfl,rfl,rfl,rfl,rfl,rfl,rfl,λ _ _=>rfl⟩
  | some l0 =>
   obtain⟨r0,A6⟩:=hro l0 rfl;refine⟨w.heap.size+1,w.heap.size,[],_,λ st pe=>{ state:=st,pending:=pe,fn,tmps:=a.tmps,params:=ps,assign,body,defers:=r0.defers },ye _,by omega,run_enterLoop_inner A6 _ _ _ _ _,?_,?_,?_,?_,?_⟩
   ·exact yd w _
   ·exact Ext.of_below ((yf _ w).alloc (ye _) _)
   ·intro W _;exact rfl
   ·intro h;cases h
   intro st pe;exact⟨rfl,rfl,rfl,rfl,rfl,rfl,rfl,λ _ _=>rfl⟩
 obtain⟨T,A⟩:=A;obtain⟨d,s,n⟩:=hg l W1;refine⟨l,ds,W1,d,W1,gf,_,W1,O,s,λ _ _=>trivial,n,λ h=>by simp at h,?_⟩;have V:=hit l
  (λ b k W=>I b k W/\W.heap[l]?=some (.loop (B .ready none))/\(ro=none->W.heap[D]?=some (.deferred (some []))))
  (λ W=>∃ c,Ix c W/\W.heap[l]?=some (.loop (B .done (some c)))/\(ro=none->W.heap[D]?=some (.deferred (some []))))
  W1
  (λ b k W W' ⟨h1,h2,h3⟩ hb=>⟨hI b k W W' h1 (Ext.of_below hb),(hb.block l (ya.1 h2).1).trans h2,λ e=>(hb.block D (ya.1 (h3 e)).1).trans (h3 e)⟩)
  (λ W W' ⟨c,h1,h2,h3⟩ hb=>⟨c,hIx c W W' h1 (Ext.of_below hb),(hb.block l (ya.1 h2).1).trans h2,λ e=>(hb.block D (ya.1 (h3 e)).1).trans (h3 e)⟩)
  ?_ (λ b W' hb hB=>⟨h0 b W' (yJ m.size hb) (m.trans (Ext.of_below hB)),(hB.block l (ya.1 f).1).trans f,λ e=>(hB.block D (ya.1 (T e).2).1).trans (T e).2⟩)
 ·refine CallsIn.mono (F:=FW ro) (R:=_) V ?_;rintro e W2 ⟨⟨v,rfl⟩,(⟨b,hi,hl,hk⟩|⟨c,hi,hl,hk⟩)⟩
  ·have J:=run_endLoop (P:=P) hl (by rw[(A _ _).1];simp);rw[(A _ _).2.1]at J;refine⟨none,_,J,hdone b ds _ (j _ λ e=>?_) (hI _ _ _ _ hi (Ext.putObj hl C rfl))⟩;rw[yR U];exact hk e
  have J:=run_endLoop (P:=P) hl (by rw[(A _ _).1];simp);rw[(A _ _).2.1]at J;refine⟨some c,_,J,hstop ds c _ (j _ λ e=>?_) (hIx _ _ _ hi (Ext.putObj hl C rfl))⟩;rw[yR U];exact hk e
 ·-- one round
  rintro b k x W o hx ⟨hi,hl,hk⟩ hbW hob hoc;have A4:l<b:=yO (ya.1 f).1 hbW;have i:b≠l:=by omega
  have A1:x∈xs:=yg hx;have hy:=run_yield (P:=P) (args:=x) hl (by rw[(A _ _).2.2.2.2.1];exact hps x A1);rw[(A _ _).2.2.1,(A _ _).2.2.2.1,(A _ _).2.2.2.2.1,(A _ _).2.2.2.2.2.1,(A _ _).2.2.2.2.2.2.1]at hy;refine⟨fn,_,assign,body,hy,roundIn_of_wpIn (F:=FW none) hfn ?_⟩;have hA:=hround b l k x W o hx hi C A4 ⟨_,hl⟩ hob hoc;refine wpIn_mono hA ?_;intro e a' Wa hp
  cases e with
  | normal =>
   obtain⟨X,hX,N,A5,A0,Z⟩:=hp;have Y:=N.same l _ C hl rfl;have A3:ro=none->Wa.heap[D]?=some (.deferred (some [])):=λ e=>N.same D _ (T e).1 (hk e) rfl;refine⟨_,run_beginRound Y (by rw[(A _ _).1]),?_⟩;have e1:({ B .ready none with state:=.busy }:Loop)=B .busy none:=by
    have h8:=(A .ready none).2.2.2.2.2.2.2 .busy none;have h2:=(A .ready none).2.1;simp only[h2];exact h8
   rw[e1];have z:l<Wa.heap.size:=(ya.1 Y).1;have q:(Wa.putObj l (.loop (B .busy none))).heap[l]?=some (.loop (B .busy none)):=World.putObj_heap_same z;have y:ro=none->(Wa.putObj l (.loop (B .busy none))).heap[D]?=some (.deferred (some [])):=λ e=>(yR U).trans (A3 e);refine wpIn_mono (Z _ (hX _ _ A5 (Ext.putObj Y C rfl)) ⟨_,q⟩ ((yR i).trans A0)) ?_;have S:∀ (jump:Option Code) (W3:World),KeepsFrom w.heap.size (Wa.putObj l (.loop (B .busy none))) W3 ->
     W3.heap[l]?=some (.loop (B .busy none)) /\
     (Instr.endRound l jump).run P W3=.ok (.bool jump.isNone) (W3.putObj l (.loop (B (if jump.isNone then .ready else .done) jump))) /\
     (W3.putObj l (.loop (B (if jump.isNone then .ready else .done) jump))).heap[l]?=some (.loop (B (if jump.isNone then .ready else .done) jump)) /\
     (ro=none->(W3.putObj l (.loop (B (if jump.isNone then .ready else .done) jump))).heap[D]?=some (.deferred (some []))):=λ jump W3 H=>by
    have G:=H.same _ _ C q rfl;have h4:=run_endRound (P:=P) jump G;rw[(A .busy none).2.2.2.2.2.2.2]at h4;exact⟨G,h4,World.putObj_heap_same (ya.1 G).1,λ e=>(yR U).trans (H.same _ _ (T e).1 (y e) rfl)⟩
   intro e a3 W3 hp
   cases e with
   | normal =>
    obtain⟨H,L,A2⟩:=hp;obtain⟨G,hr,K,M⟩:=S none W3 H;exact⟨_,_,hr,.inl ⟨rfl,⟨hI _ _ _ _ L (Ext.putObj G C rfl),K,M⟩,(yR i).trans A2⟩⟩
   | ret =>
    obtain⟨H,L⟩:=hp;obtain⟨G,hr,K,M⟩:=S (some .ret) W3 H;exact⟨_,_,hr,.inr ⟨rfl,.ret,hIx _ _ _ L (Ext.putObj G C rfl),K,M⟩⟩
   | exit id =>
    obtain⟨H,L⟩:=hp;obtain⟨G,hr,K,M⟩:=S (some (.exit id)) W3 H;exact⟨_,_,hr,.inr ⟨rfl,.exit id,hIx _ _ _ L (Ext.putObj G C rfl),K,M⟩⟩
   | goto t =>
    obtain⟨H,L⟩:=hp;obtain⟨G,hr,K,M⟩:=S (some (.goto t)) W3 H;exact⟨_,_,hr,.inr ⟨rfl,.goto t,hIx _ _ _ L (Ext.putObj G C rfl),K,M⟩⟩
   | panic ch=>exact hp.elim
   | outgrown=>exact hp.elim
  | exit id=>exact hp.elim
  | goto t=>exact hp.elim
  | ret=>exact hp.elim
  | panic ch=>exact hp.elim
  | outgrown=>exact hp.elim
end Go.Proofs.YtiinlplgloaanaaGreatDoor
