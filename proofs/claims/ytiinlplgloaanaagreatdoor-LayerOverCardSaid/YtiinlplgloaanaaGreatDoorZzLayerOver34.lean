/- Arguments of the layers' laws opened: rows of bytes, of numbers, of bricks, of edges; kinds and counts; a task. -/
import Derived.Test.YtiinlplgloaanaaGreatDoorZzLayerOver33
set_option linter.all false
set_option maxRecDepth 100000
set_option maxHeartbeats 4000000
namespace Go.Proofs.YtiinlplgloaanaaGreatDoor
open Go.Proofs.Tryz Go.RowKit
def IterP (P:Program) (gf:Nat) (mk:Value->Array Value) (n:Nat) (N:World->Prop) (Xp:Nat->Array Value->World->World->Prop):Prop :=
 ∀ (l:Nat) (J:Nat->World->Prop) (Jx:World->Prop) (W:World),
  (∀ k W W',J k W->Bw W W'->J k W')->(∀ W W',Jx W->Bw W W'->Jx W')->(∀ k W,k<=n->J k W->N W) ->
  (∀ k args W0 W1,k<n->J k W0->Bw W0 W1->Xp k args W0 W1->YieldAt (FW none) 0 P l args W1 λ e W'=>(e=.returned (.bool true)/\J (k+1) W')\/(e=.returned (.bool false)/\Jx W')) ->
  J 0 W->CallsIn (FW none) 0 P gf (mk (.func (.yield l) #[] #[])) W λ e W'=>(∃ v,e=.returned v)/\(J n W'\/Jx W')
theorem qfj {P:Program} {ro:Option Nat} {g:Operand} {ps:Array Tmp} {assign body:Code} {Q:Exit->Act->World->Prop} {a:Act} {w:World} {gf:Nat} {mk:Value->Array Value} {n:Nat} {N:World->Prop} {Xp:Nat->Array Value->World->World->Prop}
  (hro:∀ l0,ro=some l0->∃ r0,w.heap[l0]?=some (.loop r0))
  (hg:∀ (l:Nat) (W:World),∃ d,(resolve a.eval (rangeCall g l) 0).run P W=.ok d W/\(invoke d.target d.args).run P W=.ok (.enter gf (mk (.func (.yield l) #[] #[]))) W)
  (hit:IterP P gf mk n N Xp) (hps:∀ k x W0 W,Xp k x W0 W->x.size=ps.size)
  (I:Nat->World->Prop) (Ix:Code->World->Prop) (hI:∀ k,Stab w.heap.size (I k)) (hIx:∀ c,Stab w.heap.size (Ix c)) (h0:I 0 w) (hN:∀ k W,k<=n->I k W->N W)
  (hround:∀ (l k:Nat) (x:Array Value) (W0 W:World),k<n->I k W0->Bw W0 W->Xp k x W0 W->I k W->w.heap.size<=l->(∃ r,W.heap[l]?=some (.loop r)) ->
   assign.wpIn (FW (some l)) 0 P (Exit.then (λ a' W'=>∃ X:World->Prop,Stab w.heap.size X/\KeepsFrom w.heap.size W W'/\X W' /\
     ∀ W2,X W2->(∃ r,W2.heap[l]?=some (.loop r))->body.wpIn (FW (some l)) 0 P (rPost w.heap.size I Ix k W2) a' W2) (λ _ _ _=>False))
    { tmps:=(ps.zip x).foldl (λ t (p,v)=>t.setIfInBounds p v) a.tmps,defers:=[] } W)
  (hdone:∀ ds W,RMark w.heap.size ro ds W->I n W->Q .normal { a with defers:=ds++a.defers } W)
  (hstop:∀ ds c W,RMark w.heap.size ro ds W->Ix c W->c.wpIn (FW ro) 0 P Q { a with defers:=ds++a.defers } W) :
  (Code.rangeFunc g ps assign body).wpIn (FW ro) 0 P Q a w:=by
 refine wpIn_rangeFunc ?_;intro fn hfn;obtain⟨D,l,ds,W1,B,C,U,S,s,z,f,A⟩:∃ (D l:Nat) (ds:List Deferred) (W1:World) (B:LoopState->Option Code->Loop),
   (w.heap.size<=l)/\(D≠l)/\(Instr.enterLoop fn a.tmps ps assign body (FW ro).round).run P w=.ok (l,ds) W1/\W1.heap[l]?=some (.loop (B .ready none))/\Ext w.heap.size w W1 /\
   (∀ W,(ro=none->W.heap[D]?=some (.deferred (some [])))->RMark w.heap.size ro ds W) /\
   ((ro=none->w.heap.size<=D/\W1.heap[D]?=some (.deferred (some [])))/\∀ st pe,(B st pe).state=st/\(B st pe).pending=pe/\(B st pe).fn=fn/\(B st pe).tmps=a.tmps/\(B st pe).params=ps/\(B st pe).assign=assign/\(B st pe).body=body /\
    ∀ st' pe',{ B st pe with state:=st',pending:=pe' }=B st' pe'):=by
  cases ro with
  | none =>
   refine⟨w.heap.size,w.heap.size+1,[{ target:=.collected w.heap.size,args:=#[] }],_,λ st pe=>{ state:=st,pending:=pe,fn,tmps:=a.tmps,params:=ps,assign,body,defers:=w.heap.size },by omega,by omega,run_enterLoop_outer _ _ _ _ _,?_,?_,?_,?_,?_⟩
   ·have:=yd (w.alloc (.deferred (some []))) (.loop { state:=.ready,pending:=none,fn,tmps:=a.tmps,params:=ps,assign,body,defers:=w.heap.size });rwa [yp]at this
   ·exact Ext.of_below (((yf _ w).alloc (ye _) _).alloc (by simp) _)
   ·intro W h;exact⟨w.heap.size,ye _,rfl,h rfl⟩
   ·intro _;exact⟨ye _,(Below.heap_alloc _ _ _ (by simp)).trans (yd w _)⟩
   intro st pe;exact⟨rfl,rfl,rfl,rfl,rfl,rfl,rfl,λ _ _=>rfl⟩
  | some l0 =>
   obtain⟨r0,A1⟩:=hro l0 rfl;refine⟨w.heap.size+1,w.heap.size,[],_,λ st pe=>{ state:=st,pending:=pe,fn,tmps:=a.tmps,params:=ps,assign,body,defers:=r0.defers },ye _,by omega,run_enterLoop_inner A1 _ _ _ _ _,?_,?_,?_,?_,?_⟩
   ·exact yd w _
   ·exact Ext.of_below ((yf _ w).alloc (ye _) _)
   ·intro W _;exact rfl
   ·intro h;cases h
   intro st pe;exact⟨rfl,rfl,rfl,rfl,rfl,rfl,rfl,λ _ _=>rfl⟩
 obtain⟨b,A⟩:=A;obtain⟨d,m,i⟩:=hg l W1;refine⟨l,ds,W1,d,W1,gf,_,W1,S,m,λ _ _=>trivial,i,λ h=>by simp at h,?_⟩;have V:=hit l
  (λ k W=>I k W/\W.heap[l]?=some (.loop (B .ready none))/\(ro=none->W.heap[D]?=some (.deferred (some []))))
  (λ W=>∃ c,Ix c W/\W.heap[l]?=some (.loop (B .done (some c)))/\(ro=none->W.heap[D]?=some (.deferred (some []))))
  W1
  (λ k W W' ⟨h1,h2,h3⟩ hb=>⟨hI k W W' h1 (Ext.of_below hb),(hb.block l (ya.1 h2).1).trans h2,λ e=>(hb.block D (ya.1 (h3 e)).1).trans (h3 e)⟩)
  (λ W W' ⟨c,h1,h2,h3⟩ hb=>⟨c,hIx c W W' h1 (Ext.of_below hb),(hb.block l (ya.1 h2).1).trans h2,λ e=>(hb.block D (ya.1 (h3 e)).1).trans (h3 e)⟩)
  (λ k W hk ⟨h1,_⟩=>hN k W hk h1) ?_ ⟨hI 0 w W1 h0 z,s,λ e=>(b e).2⟩
 ·refine CallsIn.mono (F:=FW ro) (R:=_) V ?_;rintro e W2 ⟨⟨v,rfl⟩,(⟨hi,hl,hk⟩|⟨c,hi,hl,hk⟩)⟩
  ·have J:=run_endLoop (P:=P) hl (by rw[(A _ _).1];simp);rw[(A _ _).2.1]at J;refine⟨none,_,J,hdone ds _ (f _ λ e=>?_) (hI _ _ _ hi (Ext.putObj hl C rfl))⟩;rw[yR U];exact hk e
  have J:=run_endLoop (P:=P) hl (by rw[(A _ _).1];simp);rw[(A _ _).2.1]at J;refine⟨some c,_,J,hstop ds c _ (f _ λ e=>?_) (hIx _ _ _ hi (Ext.putObj hl C rfl))⟩;rw[yR U];exact hk e
 ·-- one round
  rintro k x W0 W hx ⟨hi0,hl0,hk0⟩ hb0 hxp;have hi:=hI k W0 W hi0 (Ext.of_below hb0);have hl:=(hb0.block l (ya.1 hl0).1).trans hl0;have hk:ro=none->W.heap[D]?=some (.deferred (some [])):=λ e=>(hb0.block D (ya.1 (hk0 e)).1).trans (hk0 e);have hy:=run_yield (P:=P) (args:=x) hl (by rw[(A _ _).2.2.2.2.1];exact hps k x W0 W hxp);rw[(A _ _).2.2.1,(A _ _).2.2.2.1,(A _ _).2.2.2.2.1,(A _ _).2.2.2.2.2.1,(A _ _).2.2.2.2.2.2.1]at hy;refine⟨fn,_,assign,body,hy,roundIn_of_wpIn (F:=FW none) hfn ?_⟩;have hA:=hround l k x W0 W hx hi0 hb0 hxp hi C ⟨_,hl⟩;refine wpIn_mono hA ?_;intro e a' Wa hp
  cases e with
  | normal =>
   obtain⟨X,hX,O,A0,Z⟩:=hp;have Y:=O.same l _ C hl rfl;have y:ro=none->Wa.heap[D]?=some (.deferred (some [])):=λ e=>O.same D _ (b e).1 (hk e) rfl;refine⟨_,run_beginRound Y (by rw[(A _ _).1]),?_⟩;have e1:({ B .ready none with state:=.busy }:Loop)=B .busy none:=by
    have h8:=(A .ready none).2.2.2.2.2.2.2 .busy none;have h2:=(A .ready none).2.1;simp only[h2];exact h8
   rw[e1];have q:l<Wa.heap.size:=(ya.1 Y).1;have j:(Wa.putObj l (.loop (B .busy none))).heap[l]?=some (.loop (B .busy none)):=World.putObj_heap_same q;have o:ro=none->(Wa.putObj l (.loop (B .busy none))).heap[D]?=some (.deferred (some [])):=λ e=>(yR U).trans (y e);refine wpIn_mono (Z _ (hX _ _ A0 (Ext.putObj Y C rfl)) ⟨_,j⟩) ?_;have T:∀ (jump:Option Code) (W3:World),KeepsFrom w.heap.size (Wa.putObj l (.loop (B .busy none))) W3 ->
     W3.heap[l]?=some (.loop (B .busy none)) /\
     (Instr.endRound l jump).run P W3=.ok (.bool jump.isNone) (W3.putObj l (.loop (B (if jump.isNone then .ready else .done) jump))) /\
     (W3.putObj l (.loop (B (if jump.isNone then .ready else .done) jump))).heap[l]?=some (.loop (B (if jump.isNone then .ready else .done) jump)) /\
     (ro=none->(W3.putObj l (.loop (B (if jump.isNone then .ready else .done) jump))).heap[D]?=some (.deferred (some []))):=λ jump W3 H=>by
    have G:=H.same _ _ C j rfl;have h4:=run_endRound (P:=P) jump G;rw[(A .busy none).2.2.2.2.2.2.2]at h4;exact⟨G,h4,World.putObj_heap_same (ya.1 G).1,λ e=>(yR U).trans (H.same _ _ (b e).1 (o e) rfl)⟩
   intro e a3 W3 hp
   cases e with
   | normal =>
    obtain⟨H,L⟩:=hp;obtain⟨G,hr,K,M⟩:=T none W3 H;exact⟨_,_,hr,.inl ⟨rfl,hI _ _ _ L (Ext.putObj G C rfl),K,M⟩⟩
   | ret =>
    obtain⟨H,L⟩:=hp;obtain⟨G,hr,K,M⟩:=T (some .ret) W3 H;exact⟨_,_,hr,.inr ⟨rfl,.ret,hIx _ _ _ L (Ext.putObj G C rfl),K,M⟩⟩
   | exit id =>
    obtain⟨H,L⟩:=hp;obtain⟨G,hr,K,M⟩:=T (some (.exit id)) W3 H;exact⟨_,_,hr,.inr ⟨rfl,.exit id,hIx _ _ _ L (Ext.putObj G C rfl),K,M⟩⟩
   | goto t =>
    obtain⟨H,L⟩:=hp;obtain⟨G,hr,K,M⟩:=T (some (.goto t)) W3 H;exact⟨_,_,hr,.inr ⟨rfl,.goto t,hIx _ _ _ L (Ext.putObj G C rfl),K,M⟩⟩
   | panic ch=>exact hp.elim
   | outgrown=>exact hp.elim
  | exit id=>exact hp.elim
  | goto t=>exact hp.elim
  | ret=>exact hp.elim
  | panic ch=>exact hp.elim
  | outgrown=>exact hp.elim
structure Fr (F:Nat->Prop) (W W':World):Prop where
 os:W'.os=W.os
 tape:W'.tape=W.tape
 output:W'.output=W.output
 size:W.heap.size<=W'.heap.size
 block:∀ k,k<W.heap.size->¬ F k->W'.heap[k]?=W.heap[k]?
theorem Fr.refl (F:Nat->Prop) (W:World):Fr F W W:=⟨rfl,rfl,rfl,ye _,λ _ _ _=>rfl⟩
theorem Fr.trans {F G:Nat->Prop} {X Y Z:World} (h:Fr F X Y) (k:Fr G Y Z) (hG:∀ b,b<X.heap.size->G b->F b):Fr F X Z :=
 ⟨k.os.trans h.os,k.tape.trans h.tape,k.output.trans h.output,yJ h.size k.size,λ b hb hF=>(k.block b (yO hb h.size) λ hg=>hF (hG b hb hg)).trans (h.block b hb hF)⟩
theorem Fr.of_below {F:Nat->Prop} {W W':World} (h:Bw W W'):Fr F W W':=⟨h.os,h.tape,h.output,h.size,λ k hk _=>h.block k hk⟩
theorem Fr.below {F:Nat->Prop} {W W':World} (h:Fr F W W') {B:Nat} (hB:B<=W.heap.size) (hF:∀ k,F k->B<=k):Below B W W' :=
 ⟨h.os,h.tape,h.output,h.size,λ k hk=>h.block k (by omega) λ hf=>absurd (hF k hf) (by omega)⟩
theorem Fr.mono {F G:Nat->Prop} {W W':World} (h:Fr F W W') (hFG:∀ k,k<W.heap.size->F k->G k):Fr G W W' :=
 ⟨h.os,h.tape,h.output,h.size,λ k hk hg=>h.block k hk λ hf=>hg (hFG k hk hf)⟩
theorem Fr.get {F:Nat->Prop} {W W':World} (h:Fr F W W') {k:Nat} {o:Obj} (hk:W.heap[k]?=some o) (hF:¬ F k):W'.heap[k]?=some o :=
 (h.block k (ya.1 hk).1 hF).trans hk
def TJ (W:World) (g:List Q) (L:List E) (lb base:Nat) (F:Nat->Prop) (Ts:List (List Pc)):Prop :=
 ∃ (v:Value) (Ss:List HS),W.heap[lb]?=some (.cells #[v] 96 (0,0))/\RS.Own W base v Ss/\Ss.length=Ts.length /\
  (∀ (i:Nat) (S:HS) (T:List Pc),Ss[i]?=some S->Ts[i]?=some T->StT g L T S/\RP.Own W base S.laid ((sortP g T).map (hpT g L))) /\
  F lb/\(∀ k,v.ownBlock=some k->F k)/\(∀ S∈Ss,∀ k,S.laid.ownBlock=some k->F k)/\(∀ k,F k->base<=k/\∃ cs T,W.heap[k]?=some (.cells cs T (0,0)))
theorem TJ.move {W W':World} {g:List Q} {L:List E} {lb base:Nat} {F:Nat->Prop} {Ts:List (List Pc)} (h:TJ W g L lb base F Ts) (hk:∀ k,F k->W'.heap[k]?=W.heap[k]?):TJ W' g L lb base F Ts:=by
 obtain⟨v,Ss,h1,h2,h3,h4,h5,h6,h7,h8⟩:=h;refine⟨v,Ss,(hk lb h5).trans h1,qj h2 λ k e=>hk k (h6 k e),h3,λ i S T hS hT=>?_,h5,h6,h7,λ k e=>⟨(h8 k e).1,(by obtain⟨_,cs,T,hc⟩:=h8 k e;exact⟨cs,T,(hk k e).trans hc⟩)⟩⟩;obtain⟨a,b⟩:=h4 i S T hS hT;exact⟨a,qj b λ k e=>hk k (h7 S (yg hS) k e)⟩
theorem TJ.cells {W:World} {g:List Q} {L:List E} {lb base:Nat} {F:Nat->Prop} {Ts:List (List Pc)} (h:TJ W g L lb base F Ts) {k:Nat} (hk:F k):base<=k/\∃ cs T,W.heap[k]?=some (.cells cs T (0,0)):=by
 obtain⟨_,_,_,_,_,_,_,_,_,h8⟩:=h;exact h8 k hk
theorem TJ.lt {W:World} {g:List Q} {L:List E} {lb base:Nat} {F:Nat->Prop} {Ts:List (List Pc)} (h:TJ W g L lb base F Ts) {k:Nat} (hk:F k):k<W.heap.size/\base<=k:=by
 obtain⟨h1,cs,T,h2⟩:=h.cells hk;exact⟨(ya.1 h2).1,h1⟩
theorem TJ.keep {W W':World} {g:List Q} {L:List E} {lb base:Nat} {F G:Nat->Prop} {Ts:List (List Pc)} (h:TJ W g L lb base F Ts) (f:Fr G W W') (hd:∀ k,F k->¬ G k):TJ W' g L lb base F Ts :=
 h.move λ k hk=>f.block k (h.lt hk).1 (hd k hk)
theorem TJ.below {W W':World} {g:List Q} {L:List E} {lb base:Nat} {F:Nat->Prop} {Ts:List (List Pc)} (h:TJ W g L lb base F Ts) (b:Bw W W'):TJ W' g L lb base F Ts :=
 h.keep (G:=λ _=>False) (Fr.of_below b) λ _ _=>id
theorem TJ.ext {W W':World} {g:List Q} {L:List E} {lb base:Nat} {F:Nat->Prop} {Ts:List (List Pc)} (h:TJ W g L lb base F Ts) {B:Nat} (e:Ext B W W'):TJ W' g L lb base F Ts:=by
 obtain⟨v,Ss,h1,h2,h3,h4,h5,h6,h7,h8⟩:=h;exact⟨v,Ss,e.block _ _ h1 (.inr rfl),Stab.owns B _ _ _ _ _ _ W W' h2 e,h3,λ i S T hS hT=>⟨(h4 i S T hS hT).1,Stab.owns B _ _ _ _ _ _ W W' (h4 i S T hS hT).2 e⟩,h5,h6,h7,λ k hk=>⟨(h8 k hk).1,(by obtain⟨_,cs,T,hc⟩:=h8 k hk;exact⟨cs,T,e.block _ _ hc (.inr rfl)⟩)⟩⟩
theorem qb9 {g:List Q} {L:List E} {p:Pc} (hg:g.length<=64) (h:∃ q∈g,q∈p.qs):leastH (hpT g L p)=leastP g p:=by
 obtain⟨i,q,h1,h2,_⟩:=za1 h;unfold leastH hpT;simp only;rw[h2,zh8 hg h1]
theorem qg5 {g:List Q} {L:List E} {T:List Pc} (hg:g.length<=64) (ha:ApartT T) (hin:∀ p∈T,∃ q∈g,q∈p.qs):((sortP g T).map (hpT g L)).Perm (T.map (hpT g L))/\((sortP g T).map (hpT g L)).Pairwise λ a b=>leastH a<leastH b:=by
 refine⟨(zam g T).map _,?_⟩;rw[List.pairwise_map];have h:=qeR g T (qbJ ha hin);refine List.Pairwise.imp_of_mem ?_ h;intro a b hma hmb hlt;rw[qb9 hg (hin a ((zam g T).mem_iff.1 hma)),qb9 hg (hin b ((zam g T).mem_iff.1 hmb))];exact hlt
theorem qca {W:World} {g:Nat} {S:HS} {T:TypeId} (h:W.heap[g]?=some (.cells (hsVals S).toArray T (0,0))) :
  W.cell? ⟨g,0,none⟩=some (.slice S.lp S.ln S.lc)/\W.cell? ⟨g,1,none⟩=some (.int .u64 S.set)/\W.cell? ⟨g,2,none⟩=some (.int .u64 S.bord.1)/\W.cell? ⟨g,3,none⟩=some (.int .u64 S.bord.2.1)/\W.cell? ⟨g,4,none⟩=some (.int .u64 S.bord.2.2)/\W.cell? ⟨g,5,none⟩=some (.int .u64 S.joint.1)/\W.cell? ⟨g,6,none⟩=some (.int .u64 S.joint.2.1)/\W.cell? ⟨g,7,none⟩=some (.int .u64 S.joint.2.2)/\W.cell? ⟨g,8,none⟩=some (.int .i64 (S.many 0))/\W.cell? ⟨g,9,none⟩=some (.int .i64 (S.many 1))/\W.cell? ⟨g,10,none⟩=some (.int .i64 (S.many 2))/\W.cell? ⟨g,11,none⟩=some (.int .i64 (S.many 3))/\W.cell? ⟨g,12,none⟩=some (.int .i64 (S.many 4))/\W.cell? ⟨g,13,none⟩=some (.int .i64 (S.many 5))/\W.cell? ⟨g,14,none⟩=some (.int .i64 (S.many 6))/\W.cell? ⟨g,15,none⟩=some (.int .i64 (S.many 7)):=by
 refine⟨?_,?_,?_,?_,?_,?_,?_,?_,?_,?_,?_,?_,?_,?_,?_,?_⟩ <;> (simp only[World.cell?,h];rfl)
theorem qhf (p:Option Addr) (n c:Nat) (hn:n<=c) (hc:c<=maxLen) (hp:p=none->c=0) (w:World) :
  Calls Tryz.prog 138 #[.slice p n c] w λ e w'=>e=.returned (.slice p n n)/\w'=w:=by
 have hc':c<=9223372036854775807:=by simpa[maxLen]using hc
 go_enter func138,ntmps138
 cases p with
 | none =>
  obtain rfl:=hp rfl;obtain rfl:n=0:=by omega
  go_wp2_with fail;go_ret;exact⟨rfl,rfl⟩
 | some a =>
  go_wp2_with fail;go_ret;exact⟨rfl,rfl⟩
theorem zdm {w:World} (x y:W3) (hx:okW x) (hy:okW y) (d:SubW w):Calls Tryz.prog 75 #[w3V x,w3V y] d.1 λ e w'=>e=.returned (w3V (andW x y))/\∃ d':SubW w,w'=d'.1:=by
 refine (both_any x y hx hy d.1).mono ?_;rintro e w' ⟨rfl,hg⟩;exact⟨rfl,⟨⟨w',d.2.tm hg.below⟩,rfl⟩⟩
theorem or_q {w:World} (x y:W3) (hx:okW x) (hy:okW y) (d:SubW w):Calls Tryz.prog 110 #[w3V x,w3V y] d.1 λ e w'=>e=.returned (w3V (orW x y))/\∃ d':SubW w,w'=d'.1:=by
 refine (qfr x y hx hy d.1).mono ?_;rintro e w' ⟨rfl,hg⟩;exact⟨rfl,⟨⟨w',d.2.tm hg.below⟩,rfl⟩⟩
def putPost (w:World) (s:HS) (ls:List HP) (p:HP) (k:Nat) (c:Int) (bel:W3) (e:Ending) (w':World):Prop :=
 ∃ (s':HS) (ok:Bool),e=.returned (.tuple #[RS.val s',.bool ok])/\(ok=true↔canPut s p c bel)/\(ok=false->s'=s) /\
   (ok=true->s'.set=s.set ||| p.set/\s'.bord=orW s.bord p.bord/\s'.joint=orW s.joint (andW s.bord p.bord)/\s'.many=(λ j=>if j=k then s.many k+1 else s.many j)/\RP.Own w' w.heap.size s'.laid (ls++[p])) /\
   Bw w w'
theorem zir (lp:Option Addr) (ln lc st b0 b1 b2 j0 j1 j2:Nat) (mn:Nat->Nat):RS.val ⟨lp,ln,lc,st,(b0,b1,b2),(j0,j1,j2),mn⟩=.agg #[.slice lp ln lc,.int .u64 st,.int .u64 b0,.int .u64 b1,.int .u64 b2,.int .u64 j0,.int .u64 j1,.int .u64 j2,
  .int .i64 (mn 0),.int .i64 (mn 1),.int .i64 (mn 2),.int .i64 (mn 3),.int .i64 (mn 4),.int .i64 (mn 5),.int .i64 (mn 6),.int .i64 (mn 7)]:=rfl
theorem qf9 (k:Int) (m:Bool) (t x y:Int) (st b0 b1 b2:Nat):RP.val ⟨⟨k,m,t,x,y⟩,st,(b0,b1,b2)⟩=.agg #[.int .i64 k,.bool m,.int .i64 t,.int .i64 x,.int .i64 y,.int .u64 st,.int .u64 b0,.int .u64 b1,.int .u64 b2]:=rfl
theorem infoPc:(Tryz.prog.info? 152).map (λ i=>(i.zero,i.size,i.bytes))=some (some (.agg #[.int .i64 0,.bool false,.int .i64 0,.int .i64 0,.int .i64 0,.int .u64 0,.int .u64 0,.int .u64 0,.int .u64 0]),9,72):=by kernel_rfl
theorem qb6 (p:HP):Instr.fill (λ i=>some (i*9,9)) ((Array.range (1*9)).map ((.agg #[.int .i64 0,.bool false,.int .i64 0,.int .i64 0,.int .i64 0,.int .u64 0,.int .u64 0,.int .u64 0,.int .u64 0]:Value).cells[· % (.agg #[.int .i64 0,.bool false,.int .i64 0,.int .i64 0,.int .i64 0,.int .u64 0,.int .u64 0,.int .u64 0,.int .u64 0]:Value).cells.size]!)) [(0,RP.val p)]=some (hpVals p).toArray :=
 Great.fill_whole (s:=9) (by decide) [RP.val p] _ (λ v hv=>by simp only[yU]at hv;subst hv;rfl) (by simp)
theorem qU {W:World} {b b':Nat} {e:TypeId} {size:Nat} {v:Value} {n:Nat} {xs:List Value} (h:W.ownsRow b e size v n xs) (hb:b'<=b):W.ownsRow b' e size v n xs :=
 ⟨h.1,h.2.elim .inl λ ⟨g,cap,cur,h1,h2,h3⟩=>.inr ⟨g,cap,cur,h1,yJ hb h2,h3⟩⟩
theorem zI {W:World} {g:Nat} {cs:List Value} {T:TypeId} {fr:Nat × Nat} (h:W.heap[g]?=some (.cells cs.toArray T fr)):∀ j u,cs[j]?=some u->W.cell? ((⟨g,0,none⟩:Addr).add j)=some u:=by
 intro j u hu;rw[zJ];simp[World.cell?,h,hu]
theorem qey {W:World} {base:Nat} {lp:Option Addr} {ln lc:Nat} {ls:List HP} (own:RP.Own W base (.slice lp ln lc) ls) {g:Nat} {p:HP} (hg:W.heap[g]?=some (.cells (hpVals p).toArray 152 (0,0))) (hlen:ls.length<=1000) :
  ∃ v W',(Builtin.append_ #[102,102] 102 #[.slice lp ln ln,.slice (some ⟨g,0,none⟩) 1 1]).run Tryz.prog W=.ok v W'/\RP.Own W' W.heap.size v (ls++[p])/\Bw W W':=by
 obtain⟨iQ,C,D,B,F⟩:=info_parts infoPc;have G:∀ u∈hpVals p,u.oneCell'=true:=RP.one p;rcases own.2 with⟨h1,h2⟩|⟨g0,cap,cur,h1,h2,h3,h4,h5,h6,h7⟩
 ·simp only[yC]at h1;obtain⟨rfl,rfl,rfl⟩:=h1;obtain rfl:=yT.1 h2;obtain⟨v,W',hr,ho,A,_⟩:=run_append_own (P:=Tryz.prog) (w:=W) W.heap.size 102 102 152 iQ _ 9 72 underlying102 C D B F rfl (by decide) (.slice none 0 0) 0 [] (World.ownsRow_nil _ _ _ _) ⟨g,0,none⟩ 1 1 (hpVals p) rfl (zI hg) G (by simp only[maxLen];omega) (by omega) (ye _);exact⟨v,W',hr,RP.own_snoc (l:=[]) ho,(yf _ W).grown A (ye _) (λ k hk=>by cases hk)⟩
 ·simp only[yC]at h1;obtain⟨rfl,rfl,rfl⟩:=h1;have hc:=World.ownsRow.cells own (g:=g0) rfl;obtain⟨v,W',hr,ho,A⟩:=run_append_arg_grows (P:=Tryz.prog) (w:=W) 102 102 152 iQ _ 9 72 underlying102 C D B F rfl (by decide) ⟨g0,0,none⟩ ls.length ls.length (RP.cells ls) (RP.cells_length ls) hc ⟨g,0,none⟩ 1 1 (hpVals p) rfl (zI hg) (by omega) (by simp only[maxLen];omega) (by omega);exact⟨v,W',hr,RP.own_snoc ho,(yf _ W).grown A (ye _) (λ k hk=>by cases hk)⟩
theorem zcd {w W1:World} {o1 o2 o3:Obj} (hg:Grew (((w.alloc o1).alloc o2).alloc o3) W1) :
  W1.heap[w.heap.size]?=some o1/\W1.heap[w.heap.size+1]?=some o2/\W1.heap[w.heap.size+1+1]?=some o3/\Bw w W1/\w.heap.size+3<=W1.heap.size:=by
 have hb:=hg.below;have hs:(((w.alloc o1).alloc o2).alloc o3).heap.size=w.heap.size+3:=by simp
 have h1:(((w.alloc o1).alloc o2).alloc o3).heap[w.heap.size]?=some o1:=(Below.heap_alloc _ _ _ (by simp;omega)).trans ((Below.heap_alloc _ _ _ (by simp)).trans (yd w _));have h2:(((w.alloc o1).alloc o2).alloc o3).heap[w.heap.size+1]?=some o2:=(Below.heap_alloc _ _ _ (by simp)).trans (zay w _ _);have h3:=qbk w o1 o2 o3;have h4:Bw w (((w.alloc o1).alloc o2).alloc o3):=(((yf _ w).alloc (ye _) _).alloc (by simp) _).alloc (by simp;omega) _;have hz:=hb.size;exact⟨(hb.block _ (by omega)).trans h1,(hb.block _ (by omega)).trans h2,(hb.block _ (by omega)).trans h3,h4.trans (hb.mono (by omega)),by omega⟩
theorem qaj (xs:Array Value) (i:Nat) (v:Value) (h:xs[i]?=some v) (W:World):(part 103 xs i).run Tryz.prog W=.ok v W:=by
 simp[part,go_sem,h]
theorem qbv (x y:W3) (W:World):(Op.equalIn 10000 105 (.agg #[.int .u64 x.1,.int .u64 x.2.1,.int .u64 x.2.2]) (.agg #[.int .u64 y.1,.int .u64 y.2.1,.int .u64 y.2.2])).run Tryz.prog W=.ok (decide (x=y)) W:=by
 obtain⟨x0,x1,x2⟩:=x;obtain⟨y0,y1,y2⟩:=y;have e:decide (((x0,x1,x2):W3)=(y0,y1,y2))=(((x0:Int)==(y0:Int))&&(((x1:Int)==(y1:Int))&&((x2:Int)==(y2:Int)))):=by
  rw[Bool.eq_iff_iff,yS,Yr,Yr,beq_iff_eq,beq_iff_eq,beq_iff_eq,Prod.mk.injEq,Prod.mk.injEq];omega
 obtain⟨iu,G⟩:∃ i,Tryz.prog.info? 103=some i:=Option.isSome_iff_exists.1 (by kernel_rfl);rw[e,run_equalIn_array W 9999 _ _ underlying105 G];simp only;have hc:Tryz.prog.cellsOf 103=1:=by kernel_rfl
 rw[hc,show List.range 3=[0,1,2]from rfl];generalize (x0:Int)=a0;generalize (x1:Int)=a1;generalize (x2:Int)=a2;generalize (y0:Int)=c0;generalize (y1:Int)=c1;generalize (y2:Int)=c2;have B:=qaj #[.int .u64 a0,.int .u64 a1,.int .u64 a2] (0*1) (.int .u64 a0) rfl;have H:=qaj #[.int .u64 a0,.int .u64 a1,.int .u64 a2] (1*1) (.int .u64 a1) rfl;have D:=qaj #[.int .u64 a0,.int .u64 a1,.int .u64 a2] (2*1) (.int .u64 a2) rfl;have F:=qaj #[.int .u64 c0,.int .u64 c1,.int .u64 c2] (0*1) (.int .u64 c0) rfl;have I:=qaj #[.int .u64 c0,.int .u64 c1,.int .u64 c2] (1*1) (.int .u64 c1) rfl;have C:=qaj #[.int .u64 c0,.int .u64 c1,.int .u64 c2] (2*1) (.int .u64 c2) rfl;have A:∀ a c:Int,(Op.equalIn 9999 103 (.int .u64 a) (.int .u64 c)).run Tryz.prog W=.ok (a==c) W:=λ a c=>run_equalIn_int (P:=Tryz.prog) W 9998 103 .u64 .u64 a c underlying103;simp only[Op.eqItems,yG,B,F,A,yz]
 cases a0==c0 <;> cases h1:a1==c1 <;> cases h2:a2==c2 <;> simp only[Bool.not_true,Bool.not_false,if_true,Yo,if_false,yH,yz,yG,H,D,I,C,A,Bool.and_true,Bool.and_false,Bool.true_and,Bool.false_and,h1,h2]
theorem zaD {P:Program} {T:TypeId} (hT:∀ w,(isAgg T).run P w=.ok false w) {W:World} {g i:Nat} {cs:Array Value} {t:TypeId} (hg:W.heap[g]?=some (.cells cs t (0,0))) {u:Value} (hi:cs[i]?=some u) (hz:∀ w,(sizeOf T).run P w=.ok 1 w) {v:Value} (hv:v.oneCell'=true) :
  (Instr.storeAt T (.pointer (some ⟨g,i,none⟩)) v).run P W=.ok () (W.setCell ⟨g,i,none⟩ v):=by
 have hf:=frozen_of_row W g i cs t hg;have hc:W.cell? ⟨g,i,none⟩=some u:=by simp[World.cell?,hg,hi]
 simp only[Instr.storeAt,Instr.sureAddr,yG,yH,yz];have A:v.cells=#[v]:=by cases v <;> first|rfl|(simp[Value.oneCell']at hv)
 simp only[storeVar,yG,hz,yz,A,List.size_toArray,yA,yN,Nat.zero_add,if_true];have ha:(⟨g,i,none⟩:Addr).add 0=⟨g,i,none⟩:=rfl;simp only[storeCells,store,ha]
 cases v <;> first|(simp[Value.oneCell']at hv;done)|simp[Sem.run,hc,hf,yG,Result.andThen]
theorem qfo (n:Nat) (W:World):(Instr.fieldAt 108 (.pointer (some ⟨n,0,none⟩)) 0).run Tryz.prog W=.ok (.pointer (some ⟨n,0,none⟩)) W:=by kernel_rfl
theorem zq {W:World} {base:Nat} {e:TypeId} {size:Nat} {v:Value} {n:Nat} {xs:List Value} (h:W.ownsRow base e size v n xs) {a:Addr} (ha:a.block<base) (u:Value):(W.setCell a u).ownsRow base e size v n xs :=
 ⟨h.1,h.2.elim .inl λ ⟨g,cap,cur,h1,h2,h3,h4⟩=>.inr ⟨g,cap,cur,h1,h2,(yq _ _ _ _ (by omega)).trans h3,h4⟩⟩
theorem qhN {W:World} {A:Nat} {cs:Array Value} {T:TypeId} (h:W.heap[A]?=some (.cells cs T (0,0))) (v2 v3 v4 v5 v6 v7:Value) :
  ((((((W.setCell ⟨A,2,none⟩ v2).setCell ⟨A,3,none⟩ v3).setCell ⟨A,4,none⟩ v4).setCell ⟨A,5,none⟩ v5).setCell ⟨A,6,none⟩ v6).setCell ⟨A,7,none⟩ v7).heap[A]?=some (.cells ((((((cs.setIfInBounds 2 v2).setIfInBounds 3 v3).setIfInBounds 4 v4).setIfInBounds 5 v5).setIfInBounds 6 v6).setIfInBounds 7 v7) T (0,0)) :=
 yI _ _ _ _ _ _ (yI _ _ _ _ _ _ (yI _ _ _ _ _ _ (yI _ _ _ _ _ _ (yI _ _ _ _ _ _ (yI _ _ _ _ _ _ h)))))
theorem six_other (W:World) {A k:Nat} (h:k≠A) (v2 v3 v4 v5 v6 v7:Value):((((((W.setCell ⟨A,2,none⟩ v2).setCell ⟨A,3,none⟩ v3).setCell ⟨A,4,none⟩ v4).setCell ⟨A,5,none⟩ v5).setCell ⟨A,6,none⟩ v6).setCell ⟨A,7,none⟩ v7).heap[k]?=W.heap[k]? :=
 (yq _ _ _ _ h).trans ((yq _ _ _ _ h).trans ((yq _ _ _ _ h).trans ((yq _ _ _ _ h).trans ((yq _ _ _ _ h).trans (yq _ _ _ _ h)))))
theorem qgK {w W:World} {B A:Nat} (h:Below B w W) (hA:B<=A) (v2 v3 v4 v5 v6 v7:Value):Below B w ((((((W.setCell ⟨A,2,none⟩ v2).setCell ⟨A,3,none⟩ v3).setCell ⟨A,4,none⟩ v4).setCell ⟨A,5,none⟩ v5).setCell ⟨A,6,none⟩ v6).setCell ⟨A,7,none⟩ v7) :=
 (((((h.setCell (p:=⟨A,2,none⟩) hA v2).setCell (p:=⟨A,3,none⟩) hA v3).setCell (p:=⟨A,4,none⟩) hA v4).setCell (p:=⟨A,5,none⟩) hA v5).setCell (p:=⟨A,6,none⟩) hA v6).setCell (p:=⟨A,7,none⟩) hA v7
theorem qhO {W:World} {base:Nat} {e:TypeId} {size:Nat} {v:Value} {n:Nat} {xs:List Value} (h:W.ownsRow base e size v n xs) {A:Nat} (hA:A<base) (v2 v3 v4 v5 v6 v7:Value):((((((W.setCell ⟨A,2,none⟩ v2).setCell ⟨A,3,none⟩ v3).setCell ⟨A,4,none⟩ v4).setCell ⟨A,5,none⟩ v5).setCell ⟨A,6,none⟩ v6).setCell ⟨A,7,none⟩ v7).ownsRow base e size v n xs :=
 zq (zq (zq (zq (zq (zq h (a:=⟨A,2,none⟩) hA v2) (a:=⟨A,3,none⟩) hA v3) (a:=⟨A,4,none⟩) hA v4) (a:=⟨A,5,none⟩) hA v5) (a:=⟨A,6,none⟩) hA v6) (a:=⟨A,7,none⟩) hA v7
def qei (A:Nat) (W3:World) (lp:Option Addr) (ln lc:Nat) (ls:List HP) (p:HP):Nat->Value->World->Prop
 | 0,u,_=>u=.pointer (some ⟨A,0,none⟩)
 | 1,u,_=>u=.slice lp ln lc
 | 2,u,_=>u=.slice lp ln ln
 | 3,u,_=>u=RP.val p
 | 4,u,W=>∃ g,u=.slice (some ⟨g,0,none⟩) 1 1/\W.heap[g]?=some (.cells (hpVals p).toArray 152 (0,0))
 | 5,u,W=>RP.Own W W3.heap.size u (ls++[p])
 | _,u,_=>u=.pointer (some ⟨A,0,none⟩)
theorem zfd {A:Nat} {W3:World} {lp:Option Addr} {ln lc:Nat} {ls:List HP} {p:HP} (i:Nat) (u:Value) (W W':World) (h:qei A W3 lp ln lc ls p i u W) (e:Bw W W'):qei A W3 lp ln lc ls p i u W':=by
 unfold qei at *;split at h <;> first|exact h|skip
 ·obtain⟨g,h1,h2⟩:=h;exact⟨g,h1,(e.block _ (ya.1 h2).1).trans h2⟩
 exact qf h e
theorem qhA (w:World) (bb:Nat) (bv:BV) (t:Tk) (L:List E) (ps:List (List HP)) (bel:W3) (hb:BdAt w bb bv t L ps bel) (hbel:okW bel)
  (s:HS) (ls:List HP) (base:Nat) (hs:RP.Own w base s.laid ls) (hs1:s.set<2 ^ 64) (hs2:okW s.bord) (hs3:okW s.joint) (hs4:∀ k,s.many k<=64) (hls:ls.length<=64)
  (p:HP) (hp1:p.set<2 ^ 64) (hp2:okW p.bord) (k:Nat) (hk:p.ld.kind=k) (c:Int) (hc:t.counts[k]?=some c) (hc0:0<=c/\c<=16) (hk8:k<8) :
  Calls Tryz.prog 112 #[.pointer (some ⟨bb,0,none⟩),RS.val s,RP.val p] w (putPost w s ls p k c bel):=by
 obtain⟨lp,ln,lc,st,⟨b0,b1,b2⟩,⟨j0,j1,j2⟩,mn⟩:=s;obtain⟨⟨kk,m,tt,x,y⟩,pst,⟨q0,q1,q2⟩⟩:=p;simp only at hk hs1 hp1;subst hk;have HB:=yK hb;clear hb;have D7:=yK hbel;clear hbel;have G2:=yK hs;clear hs;have H2:=yK hs2;clear hs2;have H3:=yK hs3;clear hs3;have H4:=yK hs4;clear hs4;have C6:=yK hp2;clear hp2;have HC:=yK hc;clear hc;rw[zir,qf9];generalize F4:putPost w _ ls _ k c bel=Po;have C1:=yK F4;clear F4;go_enter func112,ntmps112;go_wp2_with fail;refine (both_any (b0,b1,b2) (q0,q1,q2) H2.o C6.o _).mono ?_;rintro e w1 ⟨rfl,hg⟩;obtain⟨hA,hP,hR,hB,E6⟩:=zcd hg;clear hg;unfold w3V andW;simp only;go_wp2_with fail;have hJ:=yd w1 (.cells #[.int .u64 (b0 &&& q0:Nat),.int .u64 (b1 &&& q1:Nat),.int .u64 (b2 &&& q2:Nat)] 105);have F8:=heapO (.cells #[.int .u64 (b0 &&& q0:Nat),.int .u64 (b1 &&& q1:Nat),.int .u64 (b2 &&& q2:Nat)] 105) hA;have G3:=heapO (.cells #[.int .u64 (b0 &&& q0:Nat),.int .u64 (b1 &&& q1:Nat),.int .u64 (b2 &&& q2:Nat)] 105) hP;have G0:=heapO (.cells #[.int .u64 (b0 &&& q0:Nat),.int .u64 (b1 &&& q1:Nat),.int .u64 (b2 &&& q2:Nat)] 105) hR;have G1:=hB.alloc hB.size (.cells #[.int .u64 (b0 &&& q0:Nat),.int .u64 (b1 &&& q1:Nat),.int .u64 (b2 &&& q2:Nat)] 105);have l:(w1.alloc (.cells #[.int .u64 (b0 &&& q0:Nat),.int .u64 (b1 &&& q1:Nat),.int .u64 (b2 &&& q2:Nat)] 105)).heap.size=w1.heap.size+1:=yp _ _;clear hA hP hR hB;revert hJ F8 G3 G0 G1 l;generalize w1.alloc (.cells #[.int .u64 (b0 &&& q0:Nat),.int .u64 (b1 &&& q1:Nat),.int .u64 (b2 &&& q2:Nat)] 105)=W;revert E6;generalize w1.heap.size=J;intro E6 hJ hA hP hR hB l;have U:=HB.o.keep hB;have E4:k<t.counts.length:=(yc.1 HC.o).1;obtain⟨ca,A2,G8,F1⟩:∃ (ca:Addr) (A2:Nat),bv.c=.slice (some ca) t.counts.length A2/\∀ d:SubW W,d.1.cell? (ca.add k)=some (.int .i64 c):=by
  rcases U.counts with⟨_,h0⟩|⟨ca,A2,h1,h2,h3,h4⟩
  ·rw[h0]at E4;simp at E4
  refine⟨ca,A2,h1,λ d=>?_⟩;have:=(h4.below d.2).at_ k c HC.o 0 (.int .i64 c) rfl;simpa[RI]using this
 have M:=U.blk;rw[G8]at M;have a1:∀ d:SubW W,d.1.cell? ⟨w.heap.size,1,none⟩=some (.int .u64 st):=λ d=>by simp[World.cell?,d.block hA]
 have ak:∀ d:SubW W,d.1.cell? ⟨w.heap.size,8+k,none⟩=some (.int .i64 (mn k)):=λ d=>by
  rcases (by omega:k=0\/k=1\/k=2\/k=3\/k=4\/k=5\/k=6\/k=7)with rfl|rfl|rfl|rfl|rfl|rfl|rfl|rfl <;> simp[World.cell?,d.block hA]
 have p0:∀ d:SubW W,d.1.cell? ⟨w.heap.size+1,0,none⟩=some (.int .i64 k):=λ d=>by simp[World.cell?,d.block hP]
 have p5:∀ d:SubW W,d.1.cell? ⟨w.heap.size+1,5,none⟩=some (.int .u64 pst):=λ d=>by simp[World.cell?,d.block hP]
 have A5:∀ d:SubW W,d.1.cell? ⟨bb,2,none⟩=some (.slice (some ca) t.counts.length A2):=λ d=>by simp[World.cell?,d.block M]
 have B3:∀ d:SubW W,d.1.cell? ⟨bb,8,none⟩=some (.int .u64 bel.1):=λ d=>by simp[World.cell?,d.block M]
 have B9:∀ d:SubW W,d.1.cell? ⟨bb,9,none⟩=some (.int .u64 bel.2.1):=λ d=>by simp[World.cell?,d.block M]
 have S:∀ d:SubW W,d.1.cell? ⟨bb,10,none⟩=some (.int .u64 bel.2.2):=λ d=>by simp[World.cell?,d.block M]
 have J0:∀ d:SubW W,d.1.cell? ⟨J,0,none⟩=some (.int .u64 (b0 &&& q0:Nat)):=λ d=>by simp[World.cell?,d.block hJ]
 have J1:∀ d:SubW W,d.1.cell? ⟨J,1,none⟩=some (.int .u64 (b1 &&& q1:Nat)):=λ d=>by simp[World.cell?,d.block hJ]
 have J2:∀ d:SubW W,d.1.cell? ⟨J,2,none⟩=some (.int .u64 (b2 &&& q2:Nat)):=λ d=>by simp[World.cell?,d.block hJ]
 clear M;have cc:=F1;clear F1;have u1:=zbP hs1 hp1;by_cases h1:st &&& pst=0
 case neg =>
  have v1:(((st &&& pst:Nat):Int) != 0)=true:=by simpa using h1
  have HN:Hid ¬ canPut ⟨lp,ln,lc,st,(b0,b1,b2),(j0,j1,j2),mn⟩ ⟨⟨k,m,tt,x,y⟩,pst,(q0,q1,q2)⟩ c bel:=yK λ h=>h1 h.1;clear h1;refine zg 35 (by kernel_rfl) (by kernel_rfl) ?_;simp only[yh,yj,yi,yl]
  repeat (go_big_quiet_step (fail))
  refine wpQuiet_nil ?_;intro dq;have C:=dq.block hA;have B:=dq.block hR;have D:=hB.tm dq.2;revert C B D;generalize dq.1=W3;intro C B D;clear hJ hA hP hR hB l U a1 p0 p5 ak cc A5 B3 B9 S J0 J1 J2;go_wp2_with (first
   | (refine Yb rfl 108 _ rfl w.heap.size rfl 108 _ (0,0) _ C underlying108 rfl sizeS ?_)
   | (refine wpList_store_row rfl 108 _ _ rfl (w.heap.size+1+1) rfl 108 _ #[.slice lp ln lc,.int .u64 st,.int .u64 b0,.int .u64 b1,.int .u64 b2,.int .u64 j0,.int .u64 j1,.int .u64 j2,.int .i64 (mn 0),.int .i64 (mn 1),.int .i64 (mn 2),.int .i64 (mn 3),.int .i64 (mn 4),.int .i64 (mn 5),.int .i64 (mn 6),.int .i64 (mn 7)] rfl B sizeS rfl (by simp[Value.oneCell']) ?_))
  refine Yc (qH rfl underlying108 rfl _ _ (w.heap.size+1+1) #[.slice lp ln lc,.int .u64 st,.int .u64 b0,.int .u64 b1,.int .u64 b2,.int .u64 j0,.int .u64 j1,.int .u64 j2,.int .i64 (mn 0),.int .i64 (mn 1),.int .i64 (mn 2),.int .i64 (mn 3),.int .i64 (mn 4),.int .i64 (mn 5),.int .i64 (mn 6),.int .i64 (mn 7)] (0,0) (.bool false) (setRow_heap _ _ _ _ _ _ B) sizeS rfl rfl) rfl ?_;rw[<- C1.o];exact⟨⟨lp,ln,lc,st,(b0,b1,b2),(j0,j1,j2),mn⟩,false,rfl,⟨λ h=>(by cases h),λ h=>(HN.o h).elim⟩,λ _=>rfl,λ h=>(by cases h),zh D (by omega) _⟩
 have v1:(((st &&& pst:Nat):Int) != 0)=false:=by simpa using h1
 have F7:=yK h1;clear h1;by_cases h2:(mn k:Int)<c
 case neg =>
  have v2:decide (c<=(mn k:Int))=true:=by simp;omega
  have HN:Hid ¬ canPut ⟨lp,ln,lc,st,(b0,b1,b2),(j0,j1,j2),mn⟩ ⟨⟨k,m,tt,x,y⟩,pst,(q0,q1,q2)⟩ c bel:=yK λ h=>h2 (by simpa using h.2.1);clear h2;refine zg 35 (by kernel_rfl) (by kernel_rfl) ?_;simp only[yh,yj,yi,yl]
  repeat (go_big_quiet_step (fail))
  refine wpQuiet_nil ?_;intro dq;have C:=dq.block hA;have B:=dq.block hR;have D:=hB.tm dq.2;revert C B D;generalize dq.1=W3;intro C B D;clear hJ hA hP hR hB l U a1 p0 p5 ak cc A5 B3 B9 S J0 J1 J2;go_wp2_with (first
   | (refine Yb rfl 108 _ rfl w.heap.size rfl 108 _ (0,0) _ C underlying108 rfl sizeS ?_)
   | (refine wpList_store_row rfl 108 _ _ rfl (w.heap.size+1+1) rfl 108 _ #[.slice lp ln lc,.int .u64 st,.int .u64 b0,.int .u64 b1,.int .u64 b2,.int .u64 j0,.int .u64 j1,.int .u64 j2,.int .i64 (mn 0),.int .i64 (mn 1),.int .i64 (mn 2),.int .i64 (mn 3),.int .i64 (mn 4),.int .i64 (mn 5),.int .i64 (mn 6),.int .i64 (mn 7)] rfl B sizeS rfl (by simp[Value.oneCell']) ?_))
  refine Yc (qH rfl underlying108 rfl _ _ (w.heap.size+1+1) #[.slice lp ln lc,.int .u64 st,.int .u64 b0,.int .u64 b1,.int .u64 b2,.int .u64 j0,.int .u64 j1,.int .u64 j2,.int .i64 (mn 0),.int .i64 (mn 1),.int .i64 (mn 2),.int .i64 (mn 3),.int .i64 (mn 4),.int .i64 (mn 5),.int .i64 (mn 6),.int .i64 (mn 7)] (0,0) (.bool false) (setRow_heap _ _ _ _ _ _ B) sizeS rfl rfl) rfl ?_;rw[<- C1.o];exact⟨⟨lp,ln,lc,st,(b0,b1,b2),(j0,j1,j2),mn⟩,false,rfl,⟨λ h=>(by cases h),λ h=>(HN.o h).elim⟩,λ _=>rfl,λ h=>(by cases h),zh D (by omega) _⟩
 have v2:decide (c<=(mn k:Int))=false:=by simp;omega
 have G6:=yK h2;clear h2;obtain⟨z0,z1,z2,hz⟩:∃ z0 z1 z2,andW (andW (b0,b1,b2) (q0,q1,q2)) bel=(z0,z1,z2):=⟨_,_,_,rfl⟩;have A0:∀ d:SubW W,Calls Tryz.prog 75 #[.agg #[.int .u64 (b0 &&& q0:Nat),.int .u64 (b1 &&& q1:Nat),.int .u64 (b2 &&& q2:Nat)],.agg #[.int .u64 bel.1,.int .u64 bel.2.1,.int .u64 bel.2.2]] d.1
   λ e w'=>e=.returned (.agg #[.int .u64 z0,.int .u64 z1,.int .u64 z2])/\∃ d':SubW W,w'=d'.1:=λ d=>by
  have:=zdm (andW (b0,b1,b2) (q0,q1,q2)) bel (zdF C6.o) D7.o d;rw[hz]at this;exact this
 have HZ:=yK hz;clear hz;have O:=yK A0;clear A0;have B0:∀ d:SubW W,(Op.equalIn 10000 105 (.agg #[.int .u64 z0,.int .u64 z1,.int .u64 z2]) (.agg #[.int .u64 0,.int .u64 0,.int .u64 0])).run Tryz.prog d.1=.ok (decide (((z0,z1,z2):W3)=(0,0,0))) d.1:=λ d=>qbv (z0,z1,z2) (0,0,0) d.1;by_cases h3:((z0,z1,z2):W3)=(0,0,0)
 case neg =>
  have C9:∀ d:SubW W,(Op.equalIn 10000 105 (.agg #[.int .u64 z0,.int .u64 z1,.int .u64 z2]) (.agg #[.int .u64 0,.int .u64 0,.int .u64 0])).run Tryz.prog d.1=.ok false d.1:=λ d=>by rw[B0 d,yv h3]
  clear B0;have HN:Hid ¬ canPut ⟨lp,ln,lc,st,(b0,b1,b2),(j0,j1,j2),mn⟩ ⟨⟨k,m,tt,x,y⟩,pst,(q0,q1,q2)⟩ c bel:=yK λ h=>h3 (HZ.o▸h.2.2);clear h3;refine zg 35 (by kernel_rfl) (by kernel_rfl) ?_;simp only[yh,yj,yi,yl]
  repeat (go_big_quiet_step ((exact O.o _)))
  refine wpQuiet_nil ?_;intro dq;have C:=dq.block hA;have B:=dq.block hR;have D:=hB.tm dq.2;revert C B D;generalize dq.1=W3;intro C B D;clear hJ hA hP hR hB l U a1 p0 p5 ak cc A5 B3 B9 S J0 J1 J2;go_wp2_with (first
   | (refine Yb rfl 108 _ rfl w.heap.size rfl 108 _ (0,0) _ C underlying108 rfl sizeS ?_)
   | (refine wpList_store_row rfl 108 _ _ rfl (w.heap.size+1+1) rfl 108 _ #[.slice lp ln lc,.int .u64 st,.int .u64 b0,.int .u64 b1,.int .u64 b2,.int .u64 j0,.int .u64 j1,.int .u64 j2,.int .i64 (mn 0),.int .i64 (mn 1),.int .i64 (mn 2),.int .i64 (mn 3),.int .i64 (mn 4),.int .i64 (mn 5),.int .i64 (mn 6),.int .i64 (mn 7)] rfl B sizeS rfl (by simp[Value.oneCell']) ?_))
  refine Yc (qH rfl underlying108 rfl _ _ (w.heap.size+1+1) #[.slice lp ln lc,.int .u64 st,.int .u64 b0,.int .u64 b1,.int .u64 b2,.int .u64 j0,.int .u64 j1,.int .u64 j2,.int .i64 (mn 0),.int .i64 (mn 1),.int .i64 (mn 2),.int .i64 (mn 3),.int .i64 (mn 4),.int .i64 (mn 5),.int .i64 (mn 6),.int .i64 (mn 7)] (0,0) (.bool false) (setRow_heap _ _ _ _ _ _ B) sizeS rfl rfl) rfl ?_;rw[<- C1.o];exact⟨⟨lp,ln,lc,st,(b0,b1,b2),(j0,j1,j2),mn⟩,false,rfl,⟨λ h=>(by cases h),λ h=>(HN.o h).elim⟩,λ _=>rfl,λ h=>(by cases h),zh D (by omega) _⟩
 have C9:∀ d:SubW W,(Op.equalIn 10000 105 (.agg #[.int .u64 z0,.int .u64 z1,.int .u64 z2]) (.agg #[.int .u64 0,.int .u64 0,.int .u64 0])).run Tryz.prog d.1=.ok true d.1:=λ d=>by rw[B0 d,yw h3]
 clear B0;have G9:=yK h3;clear h3;refine zg 35 (by kernel_rfl) (by kernel_rfl) ?_;simp only[yh,yj,yi,yl]
 repeat (go_big_quiet_step ((exact O.o _)))
 refine wpQuiet_nil ?_;intro dq;have C:=dq.block hA;have V:=dq.block hP;have B:=dq.block hR;have z:=dq.block hJ;have D:=hB.tm dq.2;have hs3:=dq.2.size;revert C V B z D hs3;generalize dq.1=W3;intro C V B z D hs3;clear hJ hA hP hR hB U a1 p0 p5 ak cc A5 B3 B9 S J0 J1 J2 C9 O u1 v1 v2;go_wp2_with fail;have D3:W3.heap[w.heap.size+1]?=some (.cells (hpVals ⟨⟨k,m,tt,x,y⟩,pst,(q0,q1,q2)⟩).toArray 152 (0,0)):=V;have A3:RP.Own W3 base (.slice lp ln lc) ls:=qf G2.o D;have C8:=yK A3;clear A3;refine wp_region_held 7 84 [] (by kernel_rfl) (by kernel_rfl) rfl (λ W=>Bw W3 W) (qei w.heap.size W3 lp ln lc ls ⟨⟨k,m,tt,x,y⟩,pst,(q0,q1,q2)⟩) (λ W W' h e=>h.tm e) zfd (Joins.below_draws _ W3 1) ?_ ?_
 ·simp only[yh,yj,heldFrom,heldAt];refine⟨?_,?_,?_,?_,?_,?_,?_,trivial⟩
  ·intro b W vals K hI;have e:b.eval (.tmp 4)=.pointer (some ⟨w.heap.size,0,none⟩):=(K.was 4 (by kernel_rfl)).trans rfl;refine lu_v (I:=Instr.fieldAt 108 (b.eval (.tmp 4)) 0) rfl ?_ ⟨yf _ _,rfl⟩;rw[e];exact qfo _ _
  ·intro b W vals K hI;obtain⟨e,f⟩:=K.val 0 50 (by kernel_rfl);have f':vals 0=.pointer (some ⟨w.heap.size,0,none⟩):=f;refine lu_v (I:=Instr.loadAt 102 (b.eval (.tmp 50))) rfl ?_ ⟨yf _ _,rfl⟩;rw[e,f'];exact ql isAgg102 (by simp[World.cell?,(hI.block _ (ya.1 C).1).trans C])
  ·intro b W vals K hI;obtain⟨e,f⟩:=K.val 1 51 (by kernel_rfl);have f':vals 1=.slice lp ln lc:=f;refine qX (args:=#[.slice lp ln lc]) rfl (by simp only[Yu,yM,Yi,e,f']) (enters_of func138 (by kernel_rfl) rfl) ?_;have D5:ln<=lc/\lc<=maxLen/\(lp=none->lc=0):=by
    rcases C8.o.2 with⟨h1,h2⟩|⟨g0,cap,cur,h1,h2,h3,h4,h5,h6⟩
    ·simp only[yC]at h1;obtain⟨rfl,rfl,rfl⟩:=h1;exact⟨ye _,by decide,λ _=>rfl⟩
    simp only[yC]at h1;obtain⟨rfl,rfl,rfl⟩:=h1;exact⟨h4,h5,λ h=>by cases h⟩
   refine (qhf lp ln lc D5.1 D5.2.1 D5.2.2 W).mono ?_;rintro e w' ⟨rfl,rfl⟩;exact⟨_,rfl,yf _ _,rfl⟩
  ·intro b W vals K hI;have e:b.eval (.tmp 5)=.pointer (some ⟨w.heap.size+1,0,none⟩):=(K.was 5 (by kernel_rfl)).trans rfl;refine lu_v (I:=Instr.loadAt 152 (b.eval (.tmp 5))) rfl ?_ ⟨yf _ _,rfl⟩;rw[e];have:=run_loadVar_row (P:=Tryz.prog) W (w.heap.size+1) 152 152 _ (0,0) _ ((hI.block _ (ya.1 D3).1).trans D3) underlying152 rfl sizeP;simp only[Instr.loadAt,Instr.sureAddr,yG,yH,yz,this,REnc.val];rfl
  ·intro b W vals K hI;obtain⟨e,f⟩:=K.val 3 53 (by kernel_rfl);have f':vals 3=RP.val ⟨⟨k,m,tt,x,y⟩,pst,(q0,q1,q2)⟩:=f;obtain⟨iI,F9,G7,D4,H0⟩:=info_parts infoPc;refine zac rfl (e.trans f') underlying102 F9 G7 (by rw[D4];decide) (by rw[D4];decide) (cells:=(hpVals ⟨⟨k,m,tt,x,y⟩,pst,(q0,q1,q2)⟩).toArray) (by rw[D4];exact qb6 _) ?_;exact⟨(yf _ W).alloc (ye _) _,W.heap.size,rfl,yd W _⟩
  ·intro b W vals K hI;obtain⟨e1,f1⟩:=K.val 2 52 (by kernel_rfl);obtain⟨e2,f2⟩:=K.val 4 54 (by kernel_rfl);have g1:vals 2=.slice lp ln ln:=f1;obtain⟨g,g2,hg⟩:∃ g,vals 4=.slice (some ⟨g,0,none⟩) 1 1/\W.heap[g]?=some (.cells (hpVals ⟨⟨k,m,tt,x,y⟩,pst,(q0,q1,q2)⟩).toArray 152 (0,0)):=f2;obtain⟨v,W',hr,ho,F5⟩:=qey (qf C8.o hI) hg (by omega);refine zab rfl (e1.trans g1) (e2.trans g2) hr ⟨F5,?_⟩;exact qU ho hI.size
  intro b W vals K hI;have e:b.eval (.tmp 4)=.pointer (some ⟨w.heap.size,0,none⟩):=(K.was 4 (by kernel_rfl)).trans rfl;refine lu_v (I:=Instr.fieldAt 108 (b.eval (.tmp 4)) 0) rfl ?_ ⟨yf _ _,rfl⟩;rw[e];exact qfo _ _
 ·intro W vals hI hf;have g0:vals 0=.pointer (some ⟨w.heap.size,0,none⟩):=hf 0 (by decide);have g1:vals 1=.slice lp ln lc:=hf 1 (by decide);have g2:vals 2=.slice lp ln ln:=hf 2 (by decide);have g3:vals 3=RP.val ⟨⟨k,m,tt,x,y⟩,pst,(q0,q1,q2)⟩:=hf 3 (by decide);obtain⟨g,g4,_⟩:∃ g,vals 4=.slice (some ⟨g,0,none⟩) 1 1/\W.heap[g]?=some (.cells (hpVals ⟨⟨k,m,tt,x,y⟩,pst,(q0,q1,q2)⟩).toArray 152 (0,0)):=hf 4 (by decide);have g5:RP.Own W W3.heap.size (vals 5) (ls++[⟨⟨k,m,tt,x,y⟩,pst,(q0,q1,q2)⟩]):=hf 5 (by decide);have g6:vals 6=.pointer (some ⟨w.heap.size,0,none⟩):=hf 6 (by decide);obtain⟨np,nc,hn⟩:=g5.has.slice;rw[hn]at g5;rw[qf9]at g3;have D6:=(hI.block _ (ya.1 C).1).trans C;have E5:=(hI.block _ (ya.1 V).1).trans V;have F0:=(hI.block _ (ya.1 B).1).trans B;have E1:=(hI.block _ (ya.1 z).1).trans z;have F3:=D.tm hI;simp only[yh,yj,Yl,YE,Yk,Yg,yM,Yi,putAll,Act.put,yr,yF,yE,g0,g1,g2,g3,g4,hn,g6];show wpActs _ _ _ _ 0 [7] _ _;refine qK (i:=7) (T:=102) (x:=.tmp 56) (y:=.tmp 55) (q:=⟨w.heap.size,0,none⟩) (v:=.slice np (ls++[⟨⟨k,m,tt,x,y⟩,pst,(q0,q1,q2)⟩]:List HP).length nc) (w':=W.setCell ⟨w.heap.size,0,none⟩ (.slice np (ls++[⟨⟨k,m,tt,x,y⟩,pst,(q0,q1,q2)⟩]:List HP).length nc)) rfl rfl rfl ?_ ?_ ?_ trivial ?_
  ·rfl
  ·rfl
  ·exact zaD isAgg102 D6 rfl sizeOf102 rfl
  refine zax ?_;have N:(W.setCell ⟨w.heap.size,0,none⟩ (.slice np (ls++[⟨⟨k,m,tt,x,y⟩,pst,(q0,q1,q2)⟩]:List HP).length nc)).heap[w.heap.size]?=some (.cells #[.slice np (ls++[⟨⟨k,m,tt,x,y⟩,pst,(q0,q1,q2)⟩]:List HP).length nc,.int .u64 st,.int .u64 b0,.int .u64 b1,.int .u64 b2,.int .u64 j0,.int .u64 j1,.int .u64 j2,.int .i64 (mn 0),.int .i64 (mn 1),.int .i64 (mn 2),.int .i64 (mn 3),.int .i64 (mn 4),.int .i64 (mn 5),.int .i64 (mn 6),.int .i64 (mn 7)] 108 (0,0)):=yI _ _ _ _ _ _ D6;have r:=(yq W ⟨w.heap.size,0,none⟩ (w.heap.size+1) (.slice np (ls++[⟨⟨k,m,tt,x,y⟩,pst,(q0,q1,q2)⟩]:List HP).length nc) (by simp)).trans E5;have C2:=(yq W ⟨w.heap.size,0,none⟩ (w.heap.size+1+1) (.slice np (ls++[⟨⟨k,m,tt,x,y⟩,pst,(q0,q1,q2)⟩]:List HP).length nc) (by simp;omega)).trans F0;have B5:=(yq W ⟨w.heap.size,0,none⟩ J (.slice np (ls++[⟨⟨k,m,tt,x,y⟩,pst,(q0,q1,q2)⟩]:List HP).length nc) (by simp;omega)).trans E1;have B4:Bw w (W.setCell ⟨w.heap.size,0,none⟩ (.slice np (ls++[⟨⟨k,m,tt,x,y⟩,pst,(q0,q1,q2)⟩]:List HP).length nc)):=F3.setCell (ye _) _;have B8:=zq g5 (a:=⟨w.heap.size,0,none⟩) (by simp;omega) (.slice np (ls++[⟨⟨k,m,tt,x,y⟩,pst,(q0,q1,q2)⟩]:List HP).length nc);clear D6 E5 F0 E1 F3 C V B z D D3 hf hI g0 g1 g2 g3 g4 g5 g6 hn;revert N r C2 B5 B4 B8;generalize W.setCell ⟨w.heap.size,0,none⟩ (.slice np (ls++[⟨⟨k,m,tt,x,y⟩,pst,(q0,q1,q2)⟩]:List HP).length nc)=W5;intro N r C2 B5 B4 B8;have C5:=yK B8;clear B8;revert C5 N;generalize E0:(ls++[⟨⟨k,m,tt,x,y⟩,pst,(q0,q1,q2)⟩]:List HP).length=n5;have F6:=yK E0;clear E0;intro N C5;have a1:W5.cell? ⟨w.heap.size,1,none⟩=some (.int .u64 st):=by simp[World.cell?,N]
  have af:W5.frozen? ⟨w.heap.size,1,none⟩=false:=frozen_of_row W5 _ 1 _ _ N;have p5:W5.cell? ⟨w.heap.size+1,5,none⟩=some (.int .u64 pst):=by simp[World.cell?,r]
  have o1:=or64 hs1 hp1;go_wp2_with fail;have G:(W5.setCell ⟨w.heap.size,1,none⟩ (.int .u64 (st ||| pst:Nat))).heap[w.heap.size]?=some (.cells #[.slice np n5 nc,.int .u64 (st ||| pst:Nat),.int .u64 b0,.int .u64 b1,.int .u64 b2,.int .u64 j0,.int .u64 j1,.int .u64 j2,.int .i64 (mn 0),.int .i64 (mn 1),.int .i64 (mn 2),.int .i64 (mn 3),.int .i64 (mn 4),.int .i64 (mn 5),.int .i64 (mn 6),.int .i64 (mn 7)] 108 (0,0)):=yI _ _ _ _ _ _ N;have R:=(yq W5 ⟨w.heap.size,1,none⟩ (w.heap.size+1) (.int .u64 (st ||| pst:Nat)) (by simp)).trans r;have C3:=(yq W5 ⟨w.heap.size,1,none⟩ (w.heap.size+1+1) (.int .u64 (st ||| pst:Nat)) (by simp;omega)).trans C2;have X:=(yq W5 ⟨w.heap.size,1,none⟩ J (.int .u64 (st ||| pst:Nat)) (by simp;omega)).trans B5;have C7:Bw w (W5.setCell ⟨w.heap.size,1,none⟩ (.int .u64 (st ||| pst:Nat))):=B4.setCell (ye _) _;have D9:=zq C5.o (a:=⟨w.heap.size,1,none⟩) (by simp;omega) (.int .u64 (st ||| pst:Nat));have B6:=yK D9;clear D9;clear N r C2 B5 B4 C5 a1 af p5 o1;revert G R C3 X C7 B6;generalize W5.setCell ⟨w.heap.size,1,none⟩ (.int .u64 (st ||| pst:Nat))=W6;intro G R C3 X C7 B6;have a2:∀ d:SubW W6,d.1.cell? ⟨w.heap.size,2,none⟩=some (.int .u64 b0):=λ d=>by simp[World.cell?,d.block G]
  have a3:∀ d:SubW W6,d.1.cell? ⟨w.heap.size,3,none⟩=some (.int .u64 b1):=λ d=>by simp[World.cell?,d.block G]
  have a4:∀ d:SubW W6,d.1.cell? ⟨w.heap.size,4,none⟩=some (.int .u64 b2):=λ d=>by simp[World.cell?,d.block G]
  have a5:∀ d:SubW W6,d.1.cell? ⟨w.heap.size,5,none⟩=some (.int .u64 j0):=λ d=>by simp[World.cell?,d.block G]
  have a6:∀ d:SubW W6,d.1.cell? ⟨w.heap.size,6,none⟩=some (.int .u64 j1):=λ d=>by simp[World.cell?,d.block G]
  have a7:∀ d:SubW W6,d.1.cell? ⟨w.heap.size,7,none⟩=some (.int .u64 j2):=λ d=>by simp[World.cell?,d.block G]
  have p6:∀ d:SubW W6,d.1.cell? ⟨w.heap.size+1,6,none⟩=some (.int .u64 q0):=λ d=>by simp[World.cell?,d.block R]
  have p7:∀ d:SubW W6,d.1.cell? ⟨w.heap.size+1,7,none⟩=some (.int .u64 q1):=λ d=>by simp[World.cell?,d.block R]
  have p8:∀ d:SubW W6,d.1.cell? ⟨w.heap.size+1,8,none⟩=some (.int .u64 q2):=λ d=>by simp[World.cell?,d.block R]
  have J0:∀ d:SubW W6,d.1.cell? ⟨J,0,none⟩=some (.int .u64 (b0 &&& q0:Nat)):=λ d=>by simp[World.cell?,d.block X]
  have J1:∀ d:SubW W6,d.1.cell? ⟨J,1,none⟩=some (.int .u64 (b1 &&& q1:Nat)):=λ d=>by simp[World.cell?,d.block X]
  have J2:∀ d:SubW W6,d.1.cell? ⟨J,2,none⟩=some (.int .u64 (b2 &&& q2:Nat)):=λ d=>by simp[World.cell?,d.block X]
  have E8:Hid (∀ d:SubW W6,Calls Tryz.prog 110 #[.agg #[.int .u64 b0,.int .u64 b1,.int .u64 b2],.agg #[.int .u64 q0,.int .u64 q1,.int .u64 q2]] d.1
   λ e w'=>e=.returned (.agg #[.int .u64 (b0 ||| q0:Nat),.int .u64 (b1 ||| q1:Nat),.int .u64 (b2 ||| q2:Nat)])/\∃ d':SubW W6,w'=d'.1):=yK λ d=>or_q (b0,b1,b2) (q0,q1,q2) H2.o C6.o d
  have F2:Hid (∀ d:SubW W6,Calls Tryz.prog 110 #[.agg #[.int .u64 j0,.int .u64 j1,.int .u64 j2],.agg #[.int .u64 (b0 &&& q0:Nat),.int .u64 (b1 &&& q1:Nat),.int .u64 (b2 &&& q2:Nat)]] d.1
   λ e w'=>e=.returned (.agg #[.int .u64 (j0 ||| (b0 &&& q0):Nat),.int .u64 (j1 ||| (b1 &&& q1):Nat),.int .u64 (j2 ||| (b2 &&& q2):Nat)])/\∃ d':SubW W6,w'=d'.1):=yK λ d=>or_q (j0,j1,j2) (andW (b0,b1,b2) (q0,q1,q2)) H3.o (zdF C6.o) d
  refine zg 10 (by kernel_rfl) (by kernel_rfl) ?_;simp only[yh,yj,yi,yl]
  repeat (go_big_quiet_step (fail))
  go_big_quiet_step (exact E8.o _)
  repeat (go_big_quiet_step (fail))
  go_big_quiet_step (exact F2.o _)
  repeat (go_big_quiet_step (fail))
  refine wpQuiet_nil ?_;intro Y;have F:=Y.block G;have A6:=Y.block R;have A4:=Y.block C3;have B1:=C7.tm Y.2;have D8:=qf B6.o Y.2;have C4:=yK D8;clear D8;revert F A6 A4 B1 C4;generalize Y.1=W7;intro F A6 A4 B1 C4;clear X G R C3 C7 B6 a2 a3 a4 a5 a6 a7 p6 p7 p8 J0 J1 J2;have af:∀ j,W7.frozen? ⟨w.heap.size,j,none⟩=false:=λ j=>frozen_of_row W7 _ j _ _ F;have a2:W7.cell? ⟨w.heap.size,2,none⟩=some (.int .u64 b0):=by simp[World.cell?,F]
  have a3:W7.cell? ⟨w.heap.size,3,none⟩=some (.int .u64 b1):=by simp[World.cell?,F]
  have a4:W7.cell? ⟨w.heap.size,4,none⟩=some (.int .u64 b2):=by simp[World.cell?,F]
  have a5:W7.cell? ⟨w.heap.size,5,none⟩=some (.int .u64 j0):=by simp[World.cell?,F]
  have a6:W7.cell? ⟨w.heap.size,6,none⟩=some (.int .u64 j1):=by simp[World.cell?,F]
  have a7:W7.cell? ⟨w.heap.size,7,none⟩=some (.int .u64 j2):=by simp[World.cell?,F]
  go_upto_region 7 with fail;have Z:((((((W7.setCell ⟨w.heap.size,2,none⟩ (.int .u64 (b0 ||| q0:Nat))).setCell ⟨w.heap.size,3,none⟩ (.int .u64 (b1 ||| q1:Nat))).setCell ⟨w.heap.size,4,none⟩ (.int .u64 (b2 ||| q2:Nat))).setCell ⟨w.heap.size,5,none⟩ (.int .u64 (j0 ||| (b0 &&& q0):Nat))).setCell ⟨w.heap.size,6,none⟩ (.int .u64 (j1 ||| (b1 &&& q1):Nat))).setCell ⟨w.heap.size,7,none⟩ (.int .u64 (j2 ||| (b2 &&& q2):Nat))).heap[w.heap.size]?=some (.cells #[.slice np n5 nc,.int .u64 (st ||| pst:Nat),.int .u64 (b0 ||| q0:Nat),.int .u64 (b1 ||| q1:Nat),.int .u64 (b2 ||| q2:Nat),.int .u64 (j0 ||| (b0 &&& q0):Nat),.int .u64 (j1 ||| (b1 &&& q1):Nat),.int .u64 (j2 ||| (b2 &&& q2):Nat),.int .i64 (mn 0),.int .i64 (mn 1),.int .i64 (mn 2),.int .i64 (mn 3),.int .i64 (mn 4),.int .i64 (mn 5),.int .i64 (mn 6),.int .i64 (mn 7)] 108 (0,0)):=qhN F (.int .u64 (b0 ||| q0:Nat)) (.int .u64 (b1 ||| q1:Nat)) (.int .u64 (b2 ||| q2:Nat)) (.int .u64 (j0 ||| (b0 &&& q0):Nat)) (.int .u64 (j1 ||| (b1 &&& q1):Nat)) (.int .u64 (j2 ||| (b2 &&& q2):Nat));have C0:=(six_other W7 (A:=w.heap.size) (k:=w.heap.size+1) (by omega) (.int .u64 (b0 ||| q0:Nat)) (.int .u64 (b1 ||| q1:Nat)) (.int .u64 (b2 ||| q2:Nat)) (.int .u64 (j0 ||| (b0 &&& q0):Nat)) (.int .u64 (j1 ||| (b1 &&& q1):Nat)) (.int .u64 (j2 ||| (b2 &&& q2):Nat))).trans A6;have A8:=(six_other W7 (A:=w.heap.size) (k:=w.heap.size+1+1) (by omega) (.int .u64 (b0 ||| q0:Nat)) (.int .u64 (b1 ||| q1:Nat)) (.int .u64 (b2 ||| q2:Nat)) (.int .u64 (j0 ||| (b0 &&& q0):Nat)) (.int .u64 (j1 ||| (b1 &&& q1):Nat)) (.int .u64 (j2 ||| (b2 &&& q2):Nat))).trans A4;have A7:=qgK B1 (ye _) (.int .u64 (b0 ||| q0:Nat)) (.int .u64 (b1 ||| q1:Nat)) (.int .u64 (b2 ||| q2:Nat)) (.int .u64 (j0 ||| (b0 &&& q0):Nat)) (.int .u64 (j1 ||| (b1 &&& q1):Nat)) (.int .u64 (j2 ||| (b2 &&& q2):Nat));have E9:=qhO C4.o (A:=w.heap.size) (by omega) (.int .u64 (b0 ||| q0:Nat)) (.int .u64 (b1 ||| q1:Nat)) (.int .u64 (b2 ||| q2:Nat)) (.int .u64 (j0 ||| (b0 &&& q0):Nat)) (.int .u64 (j1 ||| (b1 &&& q1):Nat)) (.int .u64 (j2 ||| (b2 &&& q2):Nat));have B2:=yK E9;clear E9;clear F A6 A4 B1 C4 a2 a3 a4 a5 a6 a7 af;revert Z C0 A8 A7 B2;generalize ((((((W7.setCell ⟨w.heap.size,2,none⟩ (.int .u64 (b0 ||| q0:Nat))).setCell ⟨w.heap.size,3,none⟩ (.int .u64 (b1 ||| q1:Nat))).setCell ⟨w.heap.size,4,none⟩ (.int .u64 (b2 ||| q2:Nat))).setCell ⟨w.heap.size,5,none⟩ (.int .u64 (j0 ||| (b0 &&& q0):Nat))).setCell ⟨w.heap.size,6,none⟩ (.int .u64 (j1 ||| (b1 &&& q1):Nat))).setCell ⟨w.heap.size,7,none⟩ (.int .u64 (j2 ||| (b2 &&& q2):Nat)))=W8;intro Z C0 A8 A7 B2;have af:∀ j,W8.frozen? ⟨w.heap.size,j,none⟩=false:=λ j=>frozen_of_row W8 _ j _ _ Z;have ak:W8.cell? ⟨w.heap.size,8+k,none⟩=some (.int .i64 (mn k)):=by
   rcases (by omega:k=0\/k=1\/k=2\/k=3\/k=4\/k=5\/k=6\/k=7)with rfl|rfl|rfl|rfl|rfl|rfl|rfl|rfl <;> simp[World.cell?,Z]
  have p0:W8.cell? ⟨w.heap.size+1,0,none⟩=some (.int .i64 k):=by simp[World.cell?,C0]
  have G4:=H4.o k;go_upto_region 8 with fail;have A1:∃ H:List Value,H=hsVals ⟨np,n5,nc,st ||| pst,(b0 ||| q0,b1 ||| q1,b2 ||| q2),(j0 ||| (b0 &&& q0),j1 ||| (b1 &&& q1),j2 ||| (b2 &&& q2)),λ j=>if j=k then mn k+1 else mn j⟩/\(W8.setCell ⟨w.heap.size,8+k,none⟩ (.int .i64 ((mn k:Int)+1))).heap[w.heap.size]?=some (.cells H.toArray 108 (0,0)):=by
   refine⟨_,rfl,?_⟩;rw[yI _ _ _ _ _ _ Z];rcases (by omega:k=0\/k=1\/k=2\/k=3\/k=4\/k=5\/k=6\/k=7)with rfl|rfl|rfl|rfl|rfl|rfl|rfl|rfl <;> simp[hsVals]
  obtain⟨H,B7,A1⟩:=A1;have hz:H.length=16:=by rw[B7];rfl
  have E3:H.toArray.all (·.oneCell')=true:=by rw[B7];simp[hsVals,Value.oneCell']
  have A9:=(yq W8 ⟨w.heap.size,8+k,none⟩ (w.heap.size+1+1) (.int .i64 ((mn k:Int)+1)) (by simp;omega)).trans A8;have D2:=A7.setCell (p:=⟨w.heap.size,8+k,none⟩) (ye _) (.int .i64 ((mn k:Int)+1));have E2:=zq B2.o (a:=⟨w.heap.size,8+k,none⟩) (by simp;omega) (.int .i64 ((mn k:Int)+1));have D0:=yK E2;clear E2;have G5:=yK B7;clear B7;have E7:=yK hz;clear hz;clear Z A8 C0 A7 B2 af ak p0 G4;revert A1 A9 D2 D0;generalize W8.setCell ⟨w.heap.size,8+k,none⟩ (.int .i64 ((mn k:Int)+1))=W9;intro A1 A9 D2 D0;have D1:(Tryz.prog.info? 108).map (·.size)=some H.toArray.size:=by rw[List.size_toArray,E7.o];exact sizeS
  go_wp2_with (first
   | (refine Yb rfl 108 _ rfl w.heap.size rfl 108 H.toArray (0,0) _ A1 underlying108 rfl D1 ?_)
   | (refine wpList_store_row rfl 108 _ _ rfl (w.heap.size+1+1) rfl 108 _ H.toArray rfl A9 D1 (by show 16=H.toArray.size;rw[List.size_toArray,E7.o]) E3 ?_))
  refine Yc (qH rfl underlying108 rfl _ _ (w.heap.size+1+1) H.toArray (0,0) (.bool true) (setRow_heap _ _ _ _ _ _ A9) D1 rfl rfl) rfl ?_;rw[<- C1.o];have hW:RP.Own W9 W3.heap.size (.slice np n5 nc) (ls++[⟨⟨k,m,tt,x,y⟩,pst,(q0,q1,q2)⟩]):=by
   show W9.ownsRow _ RP.ty RP.n _ (ls++[(⟨⟨k,m,tt,x,y⟩,pst,(q0,q1,q2)⟩:HP)]).length _;rw[F6.o];exact D0.o
  refine⟨⟨np,n5,nc,st ||| pst,(b0 ||| q0,b1 ||| q1,b2 ||| q2),(j0 ||| (b0 &&& q0),j1 ||| (b1 &&& q1),j2 ||| (b2 &&& q2)),λ j=>if j=k then mn k+1 else mn j⟩,true,?_,⟨λ _=>⟨F7.o,by simpa using G6.o,?_⟩,λ _=>rfl⟩,λ h=>(by cases h),λ _=>⟨rfl,rfl,rfl,rfl,?_⟩,zh D2 (by omega) _⟩
  ·rw[G5.o];rfl
  ·show andW (andW (b0,b1,b2) (q0,q1,q2)) bel=(0,0,0);rw[HZ.o];exact G9.o
  refine qU (qj hW λ kk e=>setRow_other _ _ _ _ ?_) (by omega);have:=(qg hW e).1;omega
theorem infoSt:(Tryz.prog.info? 108).map (λ i=>(i.zero,i.size,i.bytes))=some (some (.agg #[.slice none 0 0,.int .u64 0,.int .u64 0,.int .u64 0,.int .u64 0,.int .u64 0,.int .u64 0,.int .u64 0,.int .i64 0,.int .i64 0,.int .i64 0,.int .i64 0,.int .i64 0,.int .i64 0,.int .i64 0,.int .i64 0]),16,144):=by kernel_rfl
theorem qQ {α:Type} {l:List α} {x y:α} {i:Nat} (h:(l++[x])[i]?=some y):l[i]?=some y\/(i=l.length/\y=x):=by
 by_cases hi:i<l.length
 ·rw[yX hi]at h;exact .inl h
 rw[yW (by omega)]at h;obtain⟨h1,h2⟩:=yc.1 h;simp at h1;exact .inr ⟨by omega,by simpa using h2.symm⟩
theorem qgw {g:List Q} {L:List E} (hg64:g.length<=64) {lb base:Nat} {F:Nat->Prop} {Ts:List (List Pc)} {S:HS} {T:List Pc} {W:World} (hj:TJ W g L lb base F Ts) (hst:StT g L T S)
  (hs:RP.Own W base S.laid (T.map (hpT g L))) (hnF:∀ k,S.laid.ownBlock=some k->¬ F k) (hT:TbAt W) (hTg:1<base) (ha:ApartT T) (hin:∀ p∈T,∃ q∈g,q∈p.qs) (hne:T≠[]) (hTl:T.length<=64)
  (hlen:Ts.length<=1000000000) (hbase:base<=W.heap.size) :
  Calls Tryz.prog 90 #[RS.val S,.pointer (some ⟨lb,0,none⟩)] W λ e W'=>(∃ v,e=.returned v)/\∃ F':Nat->Prop,TJ W' g L lb base F' (Ts++[T]) /\
   (∀ k,F' k->F k\/S.laid.ownBlock=some k\/W.heap.size<=k)/\Fr (λ k=>F k\/S.laid.ownBlock=some k) W W':=by
 obtain⟨v,Ss,h1,h2,h3,h4,h5,h6,h7,h8⟩:=hj;obtain⟨vp,vc,rfl⟩:∃ vp vc,v=.slice vp Ss.length vc:=(REnc.Own.has (R:=RS) h2).slice;have D7:=h8 lb h5;have hW:=yK (rfl:W.heap.size=W.heap.size);have B3:RP.Own (W.alloc (.cells (hsVals S).toArray 108)) base S.laid (T.map (hpT g L)):=qf hs ((yf _ W).alloc (ye _) _);have J:TbAt (W.alloc (.cells (hsVals S).toArray 108)):=hT.below ((yf _ W).alloc (ye _) _);have A3:=yd W (.cells (hsVals S).toArray 108);obtain⟨Z,K⟩:=qg5 (L:=L) hg64 ha hin;have hC:=zfW base S.laid (T.map (hpT g L)) ((sortP g T).map (hpT g L)) _ J hTg B3 (by simpa using hne) (by rw[yB];omega) (λ p hp=>by
  obtain⟨r,_,rfl⟩:=yP.1 hp;exact yO (zbX _ g) (Nat.pow_le_pow_right (by decide) hg64)) Z K
 have Y:∀ k,S.laid.ownBlock=some k->k<W.heap.size:=λ k hk=>(qg hs hk).2.1;have C2:=yK hst;clear hst;have f:=yK hnF;clear hnF;have H2:=yK h2;clear h2;have H3:=yK h3;clear h3;have H4:=yK h4;clear h4;have H6:=yK h6;clear h6;have H7:=yK h7;clear h7;have H8:=yK h8;clear h8;have A1:=yK Y;clear Y;clear hs Z K hne hTl ha hin hT J B3;have c0:(W.alloc (.cells (hsVals S).toArray 108)).cell? ⟨W.heap.size,0,none⟩=some (.slice S.lp S.ln S.lc):=by simp only[World.cell?,A3];rfl
 show Calls _ _ #[.agg (hsVals S).toArray,_] _ _;have HC:=yK hC;clear hC;go_enter func90,ntmps90;go_wp2_with fail;refine HC.o.mono ?_;rintro e w2 ⟨rfl,B1,A9,x,t,M,z⟩;clear HC c0;have O:Bw W (W.alloc (.cells (hsVals S).toArray 108)):=(yf _ W).alloc (ye _) _;have C4:(W.alloc (.cells (hsVals S).toArray 108)).heap.size=W.heap.size+1:=yp _ _;have l:∀ k,k<W.heap.size->S.laid.ownBlock≠some k->w2.heap[k]?=W.heap[k]?:=λ k hk hne=>(z k (by omega) hne).trans (O.block k hk);have A8:w2.heap[W.heap.size]?=some (.cells (hsVals S).toArray 108 (0,0)):=(z _ (by omega) λ e=>by have:=A1.o _ e;omega).trans A3;have D:w2.heap[lb]?=some (.cells #[.slice vp Ss.length vc] 96 (0,0)):=(l lb (ya.1 h1).1 λ e=>f.o _ e h5).trans h1;have H:RS.Own w2 base (.slice vp Ss.length vc) Ss:=qj H2.o λ k e=>l k (qg H2.o e).2.1 λ e'=>f.o _ e' (H6.o k e);have hz:W.heap.size+1<=w2.heap.size:=by omega
 have B0:w2.os=W.os:=x.trans O.os;have B4:w2.tape=W.tape:=t.trans O.tape;have s:w2.output=W.output:=M.trans O.output;clear A3 z C4 A9 x t M;obtain⟨k0,k1,k2,k3,k4,k5,k6,k7,k8,k9,D2,D3,D6,D4,D8,D5⟩:=qca A8;have a0:w2.cell? ⟨lb,0,none⟩=some (.slice vp Ss.length vc):=by simp[World.cell?,D]
 have A4:=yK B1;clear B1;have A0:=yK l;clear l;have N:=yK (And.intro B0 (And.intro B4 (And.intro s hz)));clear B0 B4 s hz;clear A8 O;obtain⟨iS,C0,B8,B5,C6⟩:=info_parts infoSt;have C3:Hid (Ss.length+1<=maxLen):=yK (by simp only[maxLen];have:=H3.o;omega);have C5:Hid ((Ss.length+1)*144<=140737488355328):=yK (by have:=H3.o;omega);have C7:base<=w2.heap.size:=by have:=N.o.2.2.2;omega
 have c:=qf H ((yf _ w2).alloc (ye _) (.cells (hsVals S).toArray 108));have X:=heapO (.cells (hsVals S).toArray 108) D;have I:=zI (yd w2 (.cells (hsVals S).toArray 108));have hne:∀ k,(Value.slice vp Ss.length vc).ownBlock=some k->k≠lb:=λ k e e'=>by
  obtain⟨_,_,B,hc⟩:=qg H e;rw[e',D]at hc;simp only[yo,Yh]at hc;exact absurd hc.2.1 (by decide)
 have n:∀ (w1:World),(w2.alloc (.cells (hsVals S).toArray 108)).grownBy w1 (Value.slice vp Ss.length vc).ownBlock->w1.heap[lb]?=some (.cells #[.slice vp Ss.length vc] 96 (0,0)):=λ w1 hg =>
  (hg.block lb (ya.1 X).1 λ e=>hne lb e.symm rfl).trans X
 have B6:=yK n;clear n;have A7:=yK hne;clear hne;have y:=yK c;clear c;have C1:=yK I;clear I;have B2:=yK D;clear D H X h1;go_wp2_with (first
  | (at_builtin;refine wpList_append_own_at (P:=Tryz.prog) _ rfl _ _ 96 rfl base 108 iS _ 16 144 underlying96 C0 B8 B5 C6 rfl (by decide) (.slice vp Ss.length vc) Ss.length (RS.cells Ss) rfl y.o ⟨w2.heap.size,0,none⟩ 1 1 (hsVals S) rfl rfl C1.o (RS.one S) C3.o C5.o (by rw[yp];omega) ?_;intro v' w1 hown' hgrow _ hat;obtain⟨p',c',rfl⟩:=zf hown';have j:Boxed w1 lb 96 (.slice vp Ss.length vc):=B6.o _ hgrow;have c1:=j.cell;have f1:=j.frozen))
 have A:(w2.alloc (.cells (hsVals S).toArray 108)).grownBy w1 (Value.slice vp Ss.length vc).ownBlock:=hgrow;have m:(Value.slice p' (Ss.length+1) c').ownBlock=(Value.slice vp Ss.length vc).ownBlock\/(Value.slice p' (Ss.length+1) c').ownBlock=some (w2.heap.size+1):=by
  rcases hat with h|h
  ·exact .inl h
  exact .inr (h.trans (by rw[yp]))
 have A6:RS.Own w1 base (.slice p' (Ss.length+1) c') (Ss++[S]):=RS.own_snoc hown';clear hgrow hat hown' c1 f1;have C9:=(ya.1 B2.o).1;have A9:=N.o.2.2.2;have D1:(w2.alloc (.cells (hsVals S).toArray 108)).heap.size=w2.heap.size+1:=yp _ _;have C:Bw w2 (w2.alloc (.cells (hsVals S).toArray 108)):=(yf _ w2).alloc (ye _) _;have G:∀ k,k<w2.heap.size->k≠lb->(Value.slice vp Ss.length vc).ownBlock≠some k->(w1.setCell ⟨lb,0,none⟩ (.slice p' (Ss.length+1) c')).heap[k]?=w2.heap[k]?:=λ k hk hne hv =>
  (yq _ _ _ _ hne).trans ((A.block k (by omega) λ e=>hv e.symm).trans (C.block k hk))
 have B7:∀ k,(Value.slice vp Ss.length vc).ownBlock=some k->∃ B,(w2.alloc (.cells (hsVals S).toArray 108)).heap[k]?=some (.cells B 108 (0,0)):=λ k e=>(qg y.o e).2.2;have A2:∀ (k:Nat) (cs:Array Value),w2.heap[k]?=some (.cells cs 152 (0,0))->(w1.setCell ⟨lb,0,none⟩ (.slice p' (Ss.length+1) c')).heap[k]?=w2.heap[k]?:=λ k cs hc=>by
  have hk:=(ya.1 hc).1;refine G k hk (λ e=>?_) (λ e=>?_)
  ·subst e;rw[B2.o]at hc;simp only[yo,Yh]at hc;exact absurd hc.2.1 (by decide)
  obtain⟨B,U⟩:=B7 k e;rw[C.block k hk,hc]at U;simp only[yo,Yh]at U;exact absurd U.2.1 (by decide)
 have V:RS.Own (w1.setCell ⟨lb,0,none⟩ (.slice p' (Ss.length+1) c')) base (.slice p' (Ss.length+1) c') (Ss++[S]):=qj A6 λ k e=>yq _ _ _ _ (by
  rcases m with h|h
  ·exact A7.o k (h▸e)
  rw[h]at e;cases e;exact λ e=>by simp only at e;omega)
 go_end0
 refine⟨⟨_,rfl⟩,λ k=>(F k/\(Value.slice vp Ss.length vc).ownBlock≠some k)\/S.laid.ownBlock=some k\/(Value.slice p' (Ss.length+1) c').ownBlock=some k,
  ⟨.slice p' (Ss.length+1) c',Ss++[S],j.set _,V,by rw[yL,yL,H3.o];rfl,?_,.inl ⟨h5,λ e=>A7.o _ e rfl⟩,λ k e=>.inr (.inr e),?_,?_⟩,?_,?_⟩
 ·intro i S' T' hS' d;rcases qQ hS' with hS1|⟨hi,rfl⟩
  ·rcases qQ d with J|⟨hi,rfl⟩
   ·obtain⟨a,b⟩:=H4.o i S' T' hS1 J;refine⟨a,qj b λ k e=>?_⟩;obtain⟨_,hk,B,hc⟩:=qg b e;have B9:=H7.o S' (yg hS1) k e;have h2:=A0.o k hk λ e'=>f.o _ e' B9;exact (A2 k B (h2.trans hc)).trans h2
   have:=(yc.1 hS1).1;have:=H3.o;omega
  rcases qQ d with J|⟨_,rfl⟩
  ·have:=(yc.1 J).1;have:=H3.o;omega
  refine⟨C2.o,qj A4.o λ k e=>?_⟩;obtain⟨_,_,B,hc⟩:=qg A4.o e;exact A2 k B hc
 ·intro S' hS' k e;rcases yY.1 hS' with h|h
  ·refine .inl ⟨H7.o S' h k e,λ e'=>?_⟩;obtain⟨i,hi⟩:=yV h;obtain⟨T',d⟩:∃ T',Ts[i]?=some T':=⟨_,yb (by rw[<- H3.o];exact (yc.1 hi).1)⟩;obtain⟨_,_,B,hc⟩:=qg (H4.o i S' T' hi d).2 e;obtain⟨_,_,C8,A5⟩:=qg H2.o e';rw[hc]at A5;simp only[yo,Yh]at A5;exact absurd A5.2.1 (by decide)
  rw[yU]at h;subst h;exact .inr (.inl e)
 ·rintro k (⟨hF,hv⟩|e|e)
  ·obtain⟨hb,cs,T',hc⟩:=H8.o k hF;by_cases hkl:k=lb
   ·subst hkl;exact⟨hb,_,_,j.set _⟩
   have hk:=(ya.1 hc).1;have h2:=A0.o k hk λ e'=>f.o _ e' hF;exact⟨hb,cs,T',(G k (by omega) hkl hv).trans (h2.trans hc)⟩
  ·obtain⟨hb,_,B,hc⟩:=qg A4.o e;exact⟨hb,_,_,(A2 k B hc).trans hc⟩
  obtain⟨hb,_,B,hc⟩:=qg V e;exact⟨hb,_,_,hc⟩
 ·rintro k (⟨hF,_⟩|e|e)
  ·exact .inl hF
  ·exact .inr (.inl e)
  rcases m with h|h
  ·exact .inl (H6.o k (h▸e))
  rw[h]at e;cases e;exact .inr (.inr (by omega))
 ·have D0:(w1.setCell ⟨lb,0,none⟩ (.slice p' (Ss.length+1) c')).heap.size=w1.heap.size:=by simp
  refine⟨?_,?_,?_,?_,?_⟩
  ·have:=(Below.setCell (yf lb w1) (ye _) (Value.slice p' (Ss.length+1) c') (p:=⟨lb,0,none⟩)).os;exact this.trans (A.os.trans (C.os.trans N.o.1))
  ·have:=(Below.setCell (yf lb w1) (ye _) (Value.slice p' (Ss.length+1) c') (p:=⟨lb,0,none⟩)).tape;exact this.trans (A.tape.trans (C.tape.trans N.o.2.1))
  ·have:=(Below.setCell (yf lb w1) (ye _) (Value.slice p' (Ss.length+1) c') (p:=⟨lb,0,none⟩)).output;exact this.trans (A.output.trans (C.output.trans N.o.2.2.1))
  ·have:=A.size;omega
  intro k hk hn;have h2:=A0.o k hk λ e=>hn (.inr e);exact (G k (by omega) (λ e=>hn (.inl (e▸h5))) λ e=>hn (.inl (H6.o k e))).trans h2
attribute [local go_sem] Oper.semAt_some
def zeroTask:Array Value:=#[.slice none 0 0,.slice none 0 0,.slice none 0 0,.slice none 0 0,.slice none 0 0]
theorem sizeTask:(Tryz.prog.info? 34).map (·.size)=some 5:=by kernel_rfl
section
variable {w W W':World} {tb nb:Nat} {vg vk vc u:Value} {us:List Value} {ls:List (List Q)} {l g:List Q} {cs:List Int} {cn n m:Nat} {v:Nat->Value}
theorem zb2 {T0:TypeId} {x:Value} {n0 k:Nat} {xs:List Value} {size base:Nat} (ho:W.ownsRow base T0 size x n0 xs) (hg:W.grownBy W' x.ownBlock) {cs:Array Value} {T:TypeId} (hT:T≠T0) (hc:W.heap[k]?=some (.cells cs T (0,0))):W'.heap[k]?=W.heap[k]? :=
 hg.block k (ya.1 hc).1 λ e=>by
  obtain⟨_,_,cs2,hc2⟩:=qg ho e.symm;rw[hc]at hc2;simp only[yo,Yh]at hc2;exact hT hc2.2.1
end
theorem zaS {P:Program} {w:World} {ops:Array Oper} {rest:List Oper} {o:Oper} {a:Act} {Q:Exit->Act->World->Prop} (hgd:o.guard=none) (s x:Operand) (t:TypeId)
  (ho:o.op=.call { callee:=.builtin .append,args:=#[s,x],argTypes:=#[t,t] }) {u y v':Value} {w':World} (hs:a.eval s=u) (hx:a.eval x=y) (hr:(Builtin.append_ #[t,t] o.type #[u,y]).run P w=.ok v' w') (h:wpList P ops Q rest (a.put o.dst v') w') :
  wpList P ops Q (o :: rest) a w:=by
 refine wpList_plain hgd λ K hK=>?_;unfold Oper.wp execOp;simp only[ho,resolve,invoke,builtin,yG,yH,yz,Yu,yM,Yi,hs,hx,hr];exact hK _ _ h
theorem run_append_nil (W:World) (b:Nat):(Builtin.append_ #[22,22] 22 #[.slice (some ⟨b,0,none⟩) 0 0,.slice none 0 0]).run Tryz.prog W=.ok (.slice (some ⟨b,0,none⟩) 0 0) W:=by
 simp[Builtin.append_,go_sem]
end Go.Proofs.YtiinlplgloaanaaGreatDoor
namespace Go.Proofs.YtiinlplgloaanaaGreatDoor
open Go.Proofs.Tryz Go.RowKit Go.ChangeShapes Go.WideShapes Go.Deep Go.Joins
theorem zcy {α:Type} [Inhabited α] (R:REnc α) (hn:0<R.n) {T:TypeId} (hT:Tryz.prog.underlying T=some (.slice R.ty)) (hcells:Tryz.prog.cellsOf R.ty=R.n) {H:Type} {enc:TypeId × Value->H} {w:World} {spare:Nat->Bool} {held:Bool} {fuel:Nat} {v:Value} {x:DataW H × List MemPlace} {good:α->Prop}
  (hel:∀ (fuel':Nat) (cs:List Value) (y:DataW H × List MemPlace),cs.length=R.n->DataW.trod enc Tryz.prog w 0 spare held fuel' R.ty cs=some y->∃ r:α,cs=R.vals r/\good r)
  (h:DataW.trod enc Tryz.prog w 0 spare held fuel T [v]=some x):∃ l:List α,R.Has w v l/\∀ r∈l,good r:=by
 rcases open_slice hT h with⟨h0,_⟩|⟨a,len,cap,m,n,D,Pl,h0,_,hl,hm,hmm,_,hx⟩
 ·simp only[List.cons.injEq,and_true]at h0;exact⟨[],.inl ⟨h0,rfl⟩,λ r hr=>by cases hr⟩
 ·simp only[List.cons.injEq,and_true]at h0;subst h0;have G:len<=m:=by rw[hmm];split <;> omega
  have B:∀ i,i<m->∃ q:α,good q/\∀ (j:Nat) (u:Value),(R.vals q)[j]?=some u->w.cell? (a.add (i*R.n+j))=some u:=by
   intro i hi;obtain⟨I,h1,h2⟩:=hx i hi;rw[hcells]at h1;obtain⟨_,C,A⟩:=World.cells?_some h1;obtain⟨r,rfl,hg⟩:=hel _ _ _ C h2;refine⟨r,hg,λ j u hu=>?_⟩;have hj:j<R.n:=(by rw[<- R.len r];exact (yc.1 hu).1);have c0:=A j hj;rw[add_add]at c0;rw[c0,<- hu]
  obtain⟨q,hq⟩:=choose_lt B;refine⟨(List.range len).map q,.inr ⟨a,cap,by simp,by simpa using hl,hm,⟨λ hne=>?_,λ i r hr j u hu=>?_⟩⟩,λ r hr=>?_⟩
  ·have h0:0<len:=by
    rcases Nat.eq_zero_or_pos len with h|h
    ·subst h;exact absurd rfl hne
    exact h
   have F:0<(R.vals (q 0)).length:=(by rw[R.len];exact hn);have c0:=(hq 0 (by omega)).2 0 _ (yb F);unfold World.cell? at c0;rcases Nat.lt_or_ge (a.add (0*R.n+0)).block w.heap.size with h|h
   ·rwa [block_add]at h
   rw[Array.getElem?_eq_none h]at c0;cases c0
  ·have hi:i<len:=by have:=(yc.1 hr).1;simpa using this
   rw[yQ,List.getElem?_range hi]at hr;simp only[Option.map_some,yo]at hr;subst hr;exact (hq i (by omega)).2 j u hu
  obtain⟨i,hi,rfl⟩:=yP.1 hr;have:=List.mem_range.1 hi;exact (hq i (by omega)).1
instance :Inhabited Ld:=⟨⟨0,false,0,0,0⟩⟩
instance :Inhabited E:=⟨⟨0,0,0⟩⟩
end Go.Proofs.YtiinlplgloaanaaGreatDoor
