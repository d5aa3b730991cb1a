/- A range over a function whose iterator keeps a block of its own between two rounds. -/
import Derived.Test.YtiinlplgloaanaaGreatDoorZzLayerNever17
set_option linter.all false
namespace Go.Proofs.YtiinlplgloaanaaGreatDoor
open Go.RowKit
def IterG (P:Program) (gf:Nat) (mk:Value→Array Value) (xs:List (Array Value)):Prop :=
 ∀ (l:Nat) (J:Nat→Nat→World→Prop) (Jx:World→Prop) (W:World),
  (∀ b k W W',J b k W→Below W.heap.size W W'→J b k W')→(∀ W W',Jx W→Below W.heap.size W W'→Jx W') →
  (∀ b k args W1 o,xs[k]?=some args→J b k W1→W.heap.size≤b→W1.heap[b]?=some o→o.isCells=true →
   YieldAt (FW none) 0 P l args W1 λ e W'=>(e=.returned (.bool true)∧J b (k+1) W'∧W'.heap[b]?=some o)∨(e=.returned (.bool false)∧Jx W')) →
  (∀ b W',W.heap.size≤b→Below W.heap.size W W'→J b 0 W')→CallsIn (FW none) 0 P gf (mk (.func (.yield l) #[] #[])) W λ e W'=>(∃ v,e=.returned v)∧((∃ b,J b xs.length W')∨Jx W')
def rPostG (B:Nat) (I:Nat→Nat→World→Prop) (Ix:Code→World→Prop) (b k:Nat) (o:Obj) (W:World):Exit→Act→World→Prop
 | .normal,_,W'=>KeepsFrom B W W'∧I b (k+1) W'∧W'.heap[b]?=some o
 | .ret,_,W'=>KeepsFrom B W W'∧Ix .ret W'
 | .exit id,_,W'=>KeepsFrom B W W'∧Ix (.exit id) W'
 | .goto t,_,W'=>KeepsFrom B W W'∧Ix (.goto t) W'
 | .panic _,_,_=>False
 | .outgrown,_,_=>False
theorem zeE {P:Program} {ro:Option Nat} {g:Operand} {ps:Array Tmp} {assign body:Code} {Q:Exit→Act→World→Prop} {a:Act} {w:World} {gf:Nat} {mk:Value→Array Value} {xs:List (Array Value)}
  (hro:∀ l0,ro=some l0→∃ r0,w.heap[l0]?=some (.loop r0))
  (hg:∀ (l:Nat) (W:World),∃ d,(resolve a.eval (rangeCall g l) 0).run P W=.ok d W∧(invoke d.target d.args).run P W=.ok (.enter gf (mk (.func (.yield l) #[] #[]))) W)
  (hit:IterG P gf mk xs) (hps:∀ x∈xs,x.size=ps.size)
  (I:Nat→Nat→World→Prop) (Ix:Code→World→Prop) (hI:∀ b k,Stab w.heap.size (I b k)) (hIx:∀ c,Stab w.heap.size (Ix c)) (h0:∀ b W',w.heap.size≤b→Ext w.heap.size w W'→I b 0 W')
  (hround:∀ (b l k:Nat) (x:Array Value) (W:World) (o:Obj),xs[k]?=some x→I b k W→w.heap.size≤l→l<b→(∃ r,W.heap[l]?=some (.loop r))→W.heap[b]?=some o→o.isCells=true →
   assign.wpIn (FW (some l)) 0 P (Exit.then (λ a' W'=>∃ X:World→Prop,Stab w.heap.size X∧KeepsFrom w.heap.size W W'∧X W'∧W'.heap[b]?=some o ∧
     ∀ W2,X W2→(∃ r,W2.heap[l]?=some (.loop r))→W2.heap[b]?=some o→body.wpIn (FW (some l)) 0 P (rPostG w.heap.size I Ix b k o W2) a' W2) (λ _ _ _=>False))
    { tmps:=(ps.zip x).foldl (λ t (p,v)=>t.setIfInBounds p v) a.tmps,defers:=[] } W)
  (hdone:∀ b ds W,RMark w.heap.size ro ds W→I b xs.length W→Q .normal { a with defers:=ds++a.defers } W)
  (hstop:∀ ds c W,RMark w.heap.size ro ds W→Ix c W→c.wpIn (FW ro) 0 P Q { a with defers:=ds++a.defers } W) :
  (Code.rangeFunc g ps assign body).wpIn (FW ro) 0 P Q a w:=by
 refine wpIn_rangeFunc ?_;intro fn hfn;obtain⟨D,l,ds,W1,rec,hlen,hDl,henter,hL1,hE1,hM1,hrec⟩:∃ (D l:Nat) (ds:List Deferred) (W1:World) (rec:LoopState→Option Code→Loop),
   (w.heap.size≤l)∧(D≠l)∧(Instr.enterLoop fn a.tmps ps assign body (FW ro).round).run P w=.ok (l,ds) W1∧W1.heap[l]?=some (.loop (rec .ready none))∧Ext w.heap.size w W1 ∧
   (∀ W,(ro=none→W.heap[D]?=some (.deferred (some [])))→RMark w.heap.size ro ds W) ∧
   ((ro=none→w.heap.size≤D∧W1.heap[D]?=some (.deferred (some [])))∧∀ st pe,(rec st pe).state=st∧(rec st pe).pending=pe∧(rec st pe).fn=fn∧(rec st pe).tmps=a.tmps∧(rec st pe).params=ps∧(rec st pe).assign=assign∧(rec st pe).body=body ∧
    ∀ st' pe',{ rec st pe with state:=st',pending:=pe' }=rec st' pe'):=by
  cases ro with
  | none =>
   refine⟨w.heap.size,w.heap.size+1,[{ target:=.collected w.heap.size,args:=#[] }],_,λ st pe=>{ state:=st,pending:=pe,fn,tmps:=a.tmps,params:=ps,assign,body,defers:=w.heap.size },by omega,by omega,run_enterLoop_outer _ _ _ _ _,?_,?_,?_,?_,?_⟩
   ·have:=yd (w.alloc (.deferred (some []))) (.loop { state:=.ready,pending:=none,fn,tmps:=a.tmps,params:=ps,assign,body,defers:=w.heap.size });rwa [yp]at this
   ·exact Ext.of_below (((yf _ w).alloc (ye _) _).alloc (by simp) _)
   ·intro W h;exact⟨w.heap.size,ye _,rfl,h rfl⟩
   ·intro _;exact⟨ye _,(Below.heap_alloc _ _ _ (by simp)).trans (yd w _)⟩
   intro st pe;exact⟨rfl,rfl,rfl,rfl,rfl,rfl,rfl,λ _ _=>rfl⟩
  | some l0 =>
   obtain⟨r0,hr0⟩:=hro l0 rfl;refine⟨w.heap.size+1,w.heap.size,[],_,λ st pe=>{ state:=st,pending:=pe,fn,tmps:=a.tmps,params:=ps,assign,body,defers:=r0.defers },ye _,by omega,run_enterLoop_inner hr0 _ _ _ _ _,?_,?_,?_,?_,?_⟩
   ·exact yd w _
   ·exact Ext.of_below ((yf _ w).alloc (ye _) _)
   ·intro W _;exact rfl
   ·intro h;cases h
   intro st pe;exact⟨rfl,rfl,rfl,rfl,rfl,rfl,rfl,λ _ _=>rfl⟩
 obtain⟨hK1,hrec⟩:=hrec;obtain⟨d,hres,hinv⟩:=hg l W1;refine⟨l,ds,W1,d,W1,gf,_,W1,henter,hres,λ _ _=>trivial,hinv,λ h=>by simp at h,?_⟩;have hcall:=hit l
  (λ b k W=>I b k W∧W.heap[l]?=some (.loop (rec .ready none))∧(ro=none→W.heap[D]?=some (.deferred (some []))))
  (λ W=>∃ c,Ix c W∧W.heap[l]?=some (.loop (rec .done (some c)))∧(ro=none→W.heap[D]?=some (.deferred (some []))))
  W1
  (λ b k W W' ⟨h1,h2,h3⟩ hb=>⟨hI b k W W' h1 (Ext.of_below hb),(hb.block l (ya.1 h2).1).trans h2,λ e=>(hb.block D (ya.1 (h3 e)).1).trans (h3 e)⟩)
  (λ W W' ⟨c,h1,h2,h3⟩ hb=>⟨c,hIx c W W' h1 (Ext.of_below hb),(hb.block l (ya.1 h2).1).trans h2,λ e=>(hb.block D (ya.1 (h3 e)).1).trans (h3 e)⟩)
  ?_ (λ b W' hb hB=>⟨h0 b W' (yJ hE1.size hb) (hE1.trans (Ext.of_below hB)),(hB.block l (ya.1 hL1).1).trans hL1,λ e=>(hB.block D (ya.1 (hK1 e).2).1).trans (hK1 e).2⟩)
 ·refine CallsIn.mono (F:=FW ro) (R:=_) hcall ?_;rintro e W2 ⟨⟨v,rfl⟩,(⟨b,hi,hl,hk⟩|⟨c,hi,hl,hk⟩)⟩
  ·have hend:=run_endLoop (P:=P) hl (by rw[(hrec _ _).1];simp);rw[(hrec _ _).2.1]at hend;refine⟨none,_,hend,hdone b ds _ (hM1 _ λ e=>?_) (hI _ _ _ _ hi (Ext.putObj hl hlen rfl))⟩;rw[yR hDl];exact hk e
  have hend:=run_endLoop (P:=P) hl (by rw[(hrec _ _).1];simp);rw[(hrec _ _).2.1]at hend;refine⟨some c,_,hend,hstop ds c _ (hM1 _ λ e=>?_) (hIx _ _ _ hi (Ext.putObj hl hlen rfl))⟩;rw[yR hDl];exact hk e
 ·-- one round
  rintro b k x W o hx ⟨hi,hl,hk⟩ hbW hob hoc;have hlb:l<b:=yO (ya.1 hL1).1 hbW;have hne:b≠l:=by omega
  have hxm:x∈xs:=yg hx;have hy:=run_yield (P:=P) (args:=x) hl (by rw[(hrec _ _).2.2.2.2.1];exact hps x hxm);rw[(hrec _ _).2.2.1,(hrec _ _).2.2.2.1,(hrec _ _).2.2.2.2.1,(hrec _ _).2.2.2.2.2.1,(hrec _ _).2.2.2.2.2.2.1]at hy;refine⟨fn,_,assign,body,hy,roundIn_of_wpIn (F:=FW none) hfn ?_⟩;have hA:=hround b l k x W o hx hi hlen hlb ⟨_,hl⟩ hob hoc;refine wpIn_mono hA ?_;intro e a' Wa hp
  cases e with
  | normal =>
   obtain⟨X,hX,hkeep,hXa,hoa,hbody⟩:=hp;have hla:=hkeep.same l _ hlen hl rfl;have hka:ro=none→Wa.heap[D]?=some (.deferred (some [])):=λ e=>hkeep.same D _ (hK1 e).1 (hk e) rfl;refine⟨_,run_beginRound hla (by rw[(hrec _ _).1]),?_⟩;have e1:({ rec .ready none with state:=.busy }:Loop)=rec .busy none:=by
    have h8:=(hrec .ready none).2.2.2.2.2.2.2 .busy none;have h2:=(hrec .ready none).2.1;simp only[h2];exact h8
   rw[e1];have hlt:l<Wa.heap.size:=(ya.1 hla).1;have hl2:(Wa.putObj l (.loop (rec .busy none))).heap[l]?=some (.loop (rec .busy none)):=World.putObj_heap_same hlt;have hk2:ro=none→(Wa.putObj l (.loop (rec .busy none))).heap[D]?=some (.deferred (some [])):=λ e=>(yR hDl).trans (hka e);refine wpIn_mono (hbody _ (hX _ _ hXa (Ext.putObj hla hlen rfl)) ⟨_,hl2⟩ ((yR hne).trans hoa)) ?_;have fin:∀ (jump:Option Code) (W3:World),KeepsFrom w.heap.size (Wa.putObj l (.loop (rec .busy none))) W3 →
     W3.heap[l]?=some (.loop (rec .busy none)) ∧
     (Instr.endRound l jump).run P W3=.ok (.bool jump.isNone) (W3.putObj l (.loop (rec (if jump.isNone then .ready else .done) jump))) ∧
     (W3.putObj l (.loop (rec (if jump.isNone then .ready else .done) jump))).heap[l]?=some (.loop (rec (if jump.isNone then .ready else .done) jump)) ∧
     (ro=none→(W3.putObj l (.loop (rec (if jump.isNone then .ready else .done) jump))).heap[D]?=some (.deferred (some []))):=λ jump W3 hk3=>by
    have hl3:=hk3.same _ _ hlen hl2 rfl;have h4:=run_endRound (P:=P) jump hl3;rw[(hrec .busy none).2.2.2.2.2.2.2]at h4;exact⟨hl3,h4,World.putObj_heap_same (ya.1 hl3).1,λ e=>(yR hDl).trans (hk3.same _ _ (hK1 e).1 (hk2 e) rfl)⟩
   intro e a3 W3 hp
   cases e with
   | normal =>
    obtain⟨hk3,hi3,ho3⟩:=hp;obtain⟨hl3,hr,hl4,hk4⟩:=fin none W3 hk3;exact⟨_,_,hr,.inl ⟨rfl,⟨hI _ _ _ _ hi3 (Ext.putObj hl3 hlen rfl),hl4,hk4⟩,(yR hne).trans ho3⟩⟩
   | ret =>
    obtain⟨hk3,hi3⟩:=hp;obtain⟨hl3,hr,hl4,hk4⟩:=fin (some .ret) W3 hk3;exact⟨_,_,hr,.inr ⟨rfl,.ret,hIx _ _ _ hi3 (Ext.putObj hl3 hlen rfl),hl4,hk4⟩⟩
   | exit id =>
    obtain⟨hk3,hi3⟩:=hp;obtain⟨hl3,hr,hl4,hk4⟩:=fin (some (.exit id)) W3 hk3;exact⟨_,_,hr,.inr ⟨rfl,.exit id,hIx _ _ _ hi3 (Ext.putObj hl3 hlen rfl),hl4,hk4⟩⟩
   | goto t =>
    obtain⟨hk3,hi3⟩:=hp;obtain⟨hl3,hr,hl4,hk4⟩:=fin (some (.goto t)) W3 hk3;exact⟨_,_,hr,.inr ⟨rfl,.goto t,hIx _ _ _ hi3 (Ext.putObj hl3 hlen rfl),hl4,hk4⟩⟩
   | panic ch=>exact hp.elim
   | outgrown=>exact hp.elim
  | exit id=>exact hp.elim
  | goto t=>exact hp.elim
  | ret=>exact hp.elim
  | panic ch=>exact hp.elim
  | outgrown=>exact hp.elim
end Go.Proofs.YtiinlplgloaanaaGreatDoor
