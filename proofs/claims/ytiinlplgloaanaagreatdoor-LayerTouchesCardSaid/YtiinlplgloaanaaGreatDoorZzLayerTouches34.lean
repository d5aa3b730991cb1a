/- Chapter 7 in the heap: a tiling is found: its bricks are sorted, and it is appended to the list. -/
import Derived.Test.YtiinlplgloaanaaGreatDoorZzLayerTouches33
set_option linter.all false
set_option maxRecDepth 100000
set_option maxHeartbeats 4000000
namespace Go.Proofs.YtiinlplgloaanaaGreatDoor
open Go.Proofs.Tryz Go.RowKit
def kidT (t:Tk) (s:List Pc) (q:Q) (p:Pc):Option (List Pc):=if q∈p.qs then putT t s p else none
def kidsT (t:Tk) (s:List Pc) (q:Q) (l:List Pc):List (List Pc):=l.filterMap (kidT t s q)
theorem fZ {t:Tk} {s:List Pc} {q:Q} (h:freeT t s=some q):kidsT t s q (piecesT t).flatten=qB t s:=(rX h).symm
theorem sw (t:Tk) (s:List Pc) (q:Q) (l:List Pc) (p:Pc):(kidsT t s q (l++[p])).length=(kidsT t s q l).length+(if (kidT t s q p).isSome then 1 else 0):=by
 unfold kidsT;rw[List.filterMap_append,yL];congr 1
 cases h:kidT t s q p <;> simp[h]
theorem zr {t:Tk} {s:List Pc} {q:Q} {l m:List Pc} {p:Pc} {c:List Pc} (h:kidT t s q p=some c):(kidsT t s q (l++p :: m))[(kidsT t s q l).length]?=some c:=by
 unfold kidsT;rw[List.filterMap_append,kS,h,yW (ye _)];simp
def upT (pss:List (List Pc)) (i j:Nat):List Pc:=(pss.take i).flatten++(pss.getD i []).take j
theorem uS (pss:List (List Pc)):upT pss 0 0=[]:=by simp[upT]
theorem vG {pss:List (List Pc)} {i j:Nat} {l:List Pc} {p:Pc} (h:pss[i]?=some l) (hp:l[j]?=some p):upT pss i (j+1)=upT pss i j++[p]:=by
 unfold upT;have e:pss.getD i []=l:=by rw[yu,h];rfl
 obtain⟨A,B⟩:=yc.1 hp;rw[e,List.take_add_one,hp,kw];rfl
theorem ti {pss:List (List Pc)} {i:Nat} {l:List Pc} (h:pss[i]?=some l):upT pss i l.length=upT pss (i+1) 0:=by
 unfold upT;have e:pss.getD i []=l:=by rw[yu,h];rfl
 rw[e,Yc,yj,List.append_nil,List.take_add_one,h,List.flatten_append];simp
theorem uE (pss:List (List Pc)):upT pss pss.length 0=pss.flatten:=by unfold upT;simp
theorem Bf {pss:List (List Pc)} {i j:Nat} {l:List Pc} {p:Pc} (h:pss[i]?=some l) (hp:l[j]?=some p):∃ m,pss.flatten=upT pss i j++p :: m:=by
 obtain⟨D,B⟩:=yc.1 h;obtain⟨H,A⟩:=yc.1 hp;refine⟨l.drop (j+1)++(pss.drop (i+1)).flatten,?_⟩;have e:pss.getD i []=l:=by rw[yu,h];rfl
 have G:pss=pss.take i++l :: pss.drop (i+1):=by
  have:=List.take_append_drop i pss;rw[YG D,B]at this;exact this.symm
 have C:l=l.take j++p :: l.drop (j+1):=by
  have:=List.take_append_drop j l;rw[YG H,A]at this;exact this.symm
 unfold upT;rw[e];have I:pss.flatten=(pss.take i).flatten++(l++(pss.drop (i+1)).flatten):=by
  have:=YA List.flatten G;rwa [List.flatten_append,List.flatten_cons]at this
 have F:l++(pss.drop (i+1)).flatten=l.take j++(p :: l.drop (j+1))++(pss.drop (i+1)).flatten:=by
  rw[<- C]
 rw[I,F];simp[kw]
theorem ri {t:Tk} {s c:List Pc} {q:Q} (hf:freeT t s=some q) {i j:Nat} {l:List Pc} {p:Pc} (h:(piecesT t)[i]?=some l) (hp:l[j]?=some p) (hc:kidT t s q p=some c) :
  (qB t s)[(kidsT t s q (upT (piecesT t) i j)).length]?=some c:=by
 obtain⟨m,A⟩:=Bf h hp;rw[<- fZ hf,A];exact zr hc
theorem gZ {t:Tk} {s:List Pc} {q:Q} {i j:Nat} {l:List Pc} {p:Pc} (h:(piecesT t)[i]?=some l) (hp:l[j]?=some p) :
  (kidsT t s q (upT (piecesT t) i (j+1))).length=(kidsT t s q (upT (piecesT t) i j)).length+(if (kidT t s q p).isSome then 1 else 0):=by
 rw[vG h hp,sw]
theorem tE (pss:List (List Pc)) (i j:Nat):∃ m,pss.flatten=upT pss i j++m:=by
 unfold upT
 cases h:pss[i]? with
 | none =>
  have B:=List.getElem?_eq_none_iff.1 h;refine⟨[],?_⟩;rw[yu,h];simp[kM B]
 | some l =>
  obtain⟨C,A⟩:=yc.1 h;rw[yu,h];refine⟨l.drop j++(pss.drop (i+1)).flatten,?_⟩;have D:pss=pss.take i++l :: pss.drop (i+1):=by
   have:=List.take_append_drop i pss;rw[YG C,A]at this;exact this.symm
  have F:pss.flatten=(pss.take i).flatten++(l++(pss.drop (i+1)).flatten):=by
   have:=YA List.flatten D;rwa [List.flatten_append,List.flatten_cons]at this
  rw[F];simp only[Yv,kw];rw[<- kw (l.take j),List.take_append_drop]
theorem jY {t:Tk} {s:List Pc} {q:Q} (hf:freeT t s=some q) (i j:Nat):(kidsT t s q (upT (piecesT t) i j)).length<=(qB t s).length:=by
 obtain⟨m,A⟩:=tE (piecesT t) i j;rw[<- fZ hf,A];unfold kidsT;rw[List.filterMap_append,yL];omega
theorem nI (g:List Q) (p:Pc):∀ l:List Pc,l.Pairwise (λ a b=>leastP g a<leastP g b)->(∀ r∈l,leastP g p≠leastP g r)->(insP g p l).Pairwise (λ a b=>leastP g a<leastP g b)
 | [],_,_=>by simp[insP]
 | q :: l,h,hd=>by
  unfold insP;split
  ·rename_i hlt;refine YQ.2 ⟨λ r hr=>?_,h⟩;rcases Yd.1 hr with rfl|hr
   ·exact hlt
   exact Nat.lt_trans hlt ((YQ.1 h).1 r hr)
  rename_i hge;refine YQ.2 ⟨λ r hr=>?_,nI g p l (YQ.1 h).2 λ r hr=>hd r (Ym _ hr)⟩;rcases Yd.1 ((fD g p l).mem_iff.1 hr)with rfl|hr
  ·have:=hd q (by simp);omega
  exact(YQ.1 h).1 r hr
theorem oF (g:List Q) (l:List Pc) (h:l.Pairwise λ a b=>leastP g a≠leastP g b):(sortP g l).Pairwise (λ a b=>leastP g a<leastP g b):=by
 have:∀ (l a:List Pc),a.Pairwise (λ a b=>leastP g a<leastP g b)->l.Pairwise (λ a b=>leastP g a≠leastP g b)->(∀ x∈l,∀ y∈a,leastP g x≠leastP g y) ->
   (l.foldl (λ l p=>insP g p l) a).Pairwise (λ a b=>leastP g a<leastP g b):=by
  intro l
  induction l with
  | nil=>intro a ha _ _;exact ha
  | cons p l ih =>
   intro a ha hl hd;refine ih _ (nI g p a ha (hd p (by simp))) (YQ.1 hl).2 λ x hx y hy=>?_;rcases Yd.1 ((fD g p a).mem_iff.1 hy)with rfl|hy
   ·exact λ e=>(YQ.1 hl).1 x hx e.symm
   exact hd x (Ym _ hx) y hy
 exact this l [] List.Pairwise.nil h (λ _ _ _ hy=>by cases hy)
theorem da {g:List Q} {p:Pc} (h:∃ q∈g,q∈p.qs):∃ i q,g.findIdx? (λ q=>decide (q∈p.qs))=some i/\leastP g p=i/\g[i]?=some q/\q∈p.qs:=by
 obtain⟨q,D,B⟩:=h
 cases hf:g.findIdx? (λ q=>decide (q∈p.qs))with
 | none =>
  rw[List.findIdx?_eq_none_iff]at hf;have:=hf q D;simp[B]at this
 | some i =>
  have A:=List.findIdx?_eq_some_iff_getElem.1 hf;obtain⟨C,A,_⟩:=A;exact⟨i,g[i],rfl,by unfold leastP;rw[hf];rfl,yb C,by simpa using A⟩
theorem eN {g:List Q}:∀ {s:List Pc},ApartT s->(∀ p∈s,∃ q∈g,q∈p.qs)->s.Pairwise λ a b=>leastP g a≠leastP g b
 | [],_,_=>List.Pairwise.nil
 | p :: s,h,hin=>by
  obtain⟨h1,h2⟩:=YQ.1 h;refine YQ.2 ⟨λ r hr e=>?_,eN (s:=s) h2 λ p hp=>hin p (Ym _ hp)⟩;obtain⟨i,q,_,ei,gi,mi⟩:=da (hin p (by simp));obtain⟨j,q',_,ej,gj,mj⟩:=da (hin r (Ym _ hr));rw[ei,ej]at e;subst e;rw[gi]at gj
  cases gj
  exact h1 r hr q mi mj
theorem sr {t:Tk} {L:List E} {s:List Pc} {S:HS} (h:StT t.ground L s S):S.set=2 ^ t.ground.length-1↔fullT t s=true:=by
 rw[h.set,<- zm t.ground];unfold fullT;rw[YH];constructor
 ·intro A q hq;exact xo A q hq
 intro A;exact aO A
theorem Ck (t:Tk) (s:List Pc):rightT t s=true↔(List.range t.counts.length).map (λ i:Nat=>((manyT s (i:Int):Nat):Int))=t.counts:=by
 unfold rightT;rw[YH];constructor
 ·intro h;refine List.ext_getElem (by simp) λ i h1 A=>?_;have:=h (t.counts[i],i) (by
   rw[List.mem_zipIdx_iff_getElem?];exact yb A)
  simpa using this
 intro h x hx;rw[List.mem_zipIdx_iff_getElem?]at hx;have A:=YA (·[x.2]?) h;simp only[yQ]at A;obtain⟨B,C⟩:=yc.1 hx;rw[kG B,hx]at A;simpa using A
theorem zv {t:Tk} {s:List Pc} (h:fullT t s=true) (f:Nat):searchT t f s=(1,if rightT t s then [s]else []):=by
 cases f <;> simp[searchT,h]
theorem sO {t:Tk} {s:List Pc} (h:fullT t s=false) (f:Nat):searchT t (f+1) s=loopT (searchT t f) (qB t s) 1 []:=by
 simp[searchT,h]
theorem BJ {t:Tk} {s c:List Pc} (h:GoodT t s) (hc:c∈qB t s):GoodT t c:=by
 obtain⟨p,q,hp,_,_,hput⟩:=cb hc;exact dz h hp hput
def IterP (P:Program) (gf:Nat) (mk:Value->Array Value) (n:Nat) (N:World->Prop) (Xp:Nat->Array Value->World->World->Prop):Prop :=
 ∀ (l:Nat) (J:Nat->World->Prop) (Jx:World->Prop) (W:World),
  (∀ k W W',J k W->Bw W W'->J k W')->(∀ W W',Jx W->Bw W W'->Jx W')->(∀ k W,k<=n->J k W->N W) ->
  (∀ k args W0 W1,k<n->J k W0->Bw W0 W1->Xp k args W0 W1->YieldAt (FW none) 0 P l args W1 λ e W'=>(e=.returned (.bool true)/\J (k+1) W')\/(e=.returned (.bool false)/\Jx W')) ->
  J 0 W->CallsIn (FW none) 0 P gf (mk (.func (.yield l) #[] #[])) W λ e W'=>(∃ v,e=.returned v)/\(J n W'\/Jx W')
theorem rE {P:Program} {ro:Option Nat} {g:Operand} {ps:Array Tmp} {assign body:Code} {Q:Exit->Act->World->Prop} {a:Act} {w:World} {gf:Nat} {mk:Value->Array Value} {n:Nat} {N:World->Prop} {Xp:Nat->Array Value->World->World->Prop}
  (hro:∀ l0,ro=some l0->∃ r0,w.heap[l0]?=some (.loop r0))
  (hg:∀ (l:Nat) (W:World),∃ d,(resolve a.eval (rangeCall g l) 0).run P W=.ok d W/\(invoke d.target d.args).run P W=.ok (.enter gf (mk (.func (.yield l) #[] #[]))) W)
  (hit:IterP P gf mk n N Xp) (hps:∀ k x W0 W,Xp k x W0 W->x.size=ps.size)
  (I:Nat->World->Prop) (Ix:Code->World->Prop) (hI:∀ k,Stab w.heap.size (I k)) (hIx:∀ c,Stab w.heap.size (Ix c)) (h0:I 0 w) (hN:∀ k W,k<=n->I k W->N W)
  (hround:∀ (l k:Nat) (x:Array Value) (W0 W:World),k<n->I k W0->Bw W0 W->Xp k x W0 W->I k W->w.heap.size<=l->(∃ r,W.heap[l]?=some (.loop r)) ->
   assign.wpIn (FW (some l)) 0 P (Exit.then (λ a' W'=>∃ X:World->Prop,Stab w.heap.size X/\KeepsFrom w.heap.size W W'/\X W' /\
     ∀ W2,X W2->(∃ r,W2.heap[l]?=some (.loop r))->body.wpIn (FW (some l)) 0 P (rPost w.heap.size I Ix k W2) a' W2) (λ _ _ _=>False))
    { tmps:=(ps.zip x).foldl (λ t (p,v)=>t.setIfInBounds p v) a.tmps,defers:=[] } W)
  (hdone:∀ ds W,RMark w.heap.size ro ds W->I n W->Q .normal { a with defers:=ds++a.defers } W)
  (hstop:∀ ds c W,RMark w.heap.size ro ds W->Ix c W->c.wpIn (FW ro) 0 P Q { a with defers:=ds++a.defers } W) :
  (Code.rangeFunc g ps assign body).wpIn (FW ro) 0 P Q a w:=by
 refine wpIn_rangeFunc ?_;intro fn hfn;obtain⟨D,l,ds,T,B,C,Y,Z,A4,A1,y,A⟩:∃ (D l:Nat) (ds:List Deferred) (T:World) (B:LoopState->Option Code->Loop),
   (w.heap.size<=l)/\(D≠l)/\(Instr.enterLoop fn a.tmps ps assign body (FW ro).round).run P w=.ok (l,ds) T/\T.heap[l]?=some (.loop (B .ready none))/\Ext w.heap.size w T /\
   (∀ W,(ro=none->W.heap[D]?=some (.deferred (some [])))->RMark w.heap.size ro ds W) /\
   ((ro=none->w.heap.size<=D/\T.heap[D]?=some (.deferred (some [])))/\∀ L pe,(B L pe).state=L/\(B L pe).pending=pe/\(B L pe).fn=fn/\(B L pe).tmps=a.tmps/\(B L pe).params=ps/\(B L pe).assign=assign/\(B L pe).body=body /\
    ∀ st' pe',{ B L pe with state:=st',pending:=pe' }=B st' pe'):=by
  cases ro with
  | none =>
   refine⟨w.heap.size,w.heap.size+1,[{ target:=.collected w.heap.size,args:=#[] }],_,λ L pe=>{ state:=L,pending:=pe,fn,tmps:=a.tmps,params:=ps,assign,body,defers:=w.heap.size },by omega,by omega,run_enterLoop_outer _ _ _ _ _,?_,?_,?_,?_,?_⟩
   ·have:=yd (w.alloc (.deferred (some []))) (.loop { state:=.ready,pending:=none,fn,tmps:=a.tmps,params:=ps,assign,body,defers:=w.heap.size });rwa [yp]at this
   ·exact Ext.of_below (((yf _ w).alloc (ye _) _).alloc (by simp) _)
   ·intro W h;exact⟨w.heap.size,ye _,rfl,h rfl⟩
   ·intro _;exact⟨ye _,(Below.heap_alloc _ _ _ (by simp)).trans (yd w _)⟩
   intro L pe;exact⟨rfl,rfl,rfl,rfl,rfl,rfl,rfl,λ _ _=>rfl⟩
  | some l0 =>
   obtain⟨r0,A2⟩:=hro l0 rfl;refine⟨w.heap.size+1,w.heap.size,[],_,λ L pe=>{ state:=L,pending:=pe,fn,tmps:=a.tmps,params:=ps,assign,body,defers:=r0.defers },ye _,by omega,run_enterLoop_inner A2 _ _ _ _ _,?_,?_,?_,?_,?_⟩
   ·exact yd w _
   ·exact Ext.of_below ((yf _ w).alloc (ye _) _)
   ·intro W _;exact rfl
   ·intro h;cases h
   intro L pe;exact⟨rfl,rfl,rfl,rfl,rfl,rfl,rfl,λ _ _=>rfl⟩
 obtain⟨m,A⟩:=A;obtain⟨d,s,A0⟩:=hg l T;refine⟨l,ds,T,d,T,gf,_,T,Z,s,λ _ _=>trivial,A0,λ h=>by simp at h,?_⟩;have i:=hit l
  (λ k W=>I k W/\W.heap[l]?=some (.loop (B .ready none))/\(ro=none->W.heap[D]?=some (.deferred (some []))))
  (λ W=>∃ c,Ix c W/\W.heap[l]?=some (.loop (B .done (some c)))/\(ro=none->W.heap[D]?=some (.deferred (some []))))
  T
  (λ k W W' ⟨h1,j,h3⟩ hb=>⟨hI k W W' h1 (Ext.of_below hb),(hb.block l (ya.1 j).1).trans j,λ e=>(hb.block D (ya.1 (h3 e)).1).trans (h3 e)⟩)
  (λ W W' ⟨c,h1,j,h3⟩ hb=>⟨c,hIx c W W' h1 (Ext.of_below hb),(hb.block l (ya.1 j).1).trans j,λ e=>(hb.block D (ya.1 (h3 e)).1).trans (h3 e)⟩)
  (λ k W b ⟨h1,_⟩=>hN k W b h1) ?_ ⟨hI 0 w T h0 A1,A4,λ e=>(m e).2⟩
 ·refine CallsIn.mono (F:=FW ro) (R:=_) i ?_;rintro e W2 ⟨⟨v,rfl⟩,(⟨hi,V,b⟩|⟨c,hi,V,b⟩)⟩
  ·have J:=run_endLoop (P:=P) V (by rw[(A _ _).1];simp);rw[(A _ _).2.1]at J;refine⟨none,_,J,hdone ds _ (y _ λ e=>?_) (hI _ _ _ hi (Ext.putObj V C rfl))⟩;rw[yR Y];exact b e
  have J:=run_endLoop (P:=P) V (by rw[(A _ _).1];simp);rw[(A _ _).2.1]at J;refine⟨some c,_,J,hstop ds c _ (y _ λ e=>?_) (hIx _ _ _ hi (Ext.putObj V C rfl))⟩;rw[yR Y];exact b e
 ·-- one round
  rintro k x W0 W hx ⟨hi0,hl0,hk0⟩ hb0 hxp;have hi:=hI k W0 W hi0 (Ext.of_below hb0);have V:=(hb0.block l (ya.1 hl0).1).trans hl0;have b:ro=none->W.heap[D]?=some (.deferred (some [])):=λ e=>(hb0.block D (ya.1 (hk0 e)).1).trans (hk0 e);have hy:=run_yield (P:=P) (args:=x) V (by rw[(A _ _).2.2.2.2.1];exact hps k x W0 W hxp);rw[(A _ _).2.2.1,(A _ _).2.2.2.1,(A _ _).2.2.2.2.1,(A _ _).2.2.2.2.2.1,(A _ _).2.2.2.2.2.2.1]at hy;refine⟨fn,_,assign,body,hy,roundIn_of_wpIn (F:=FW none) hfn ?_⟩;have hA:=hround l k x W0 W hx hi0 hb0 hxp hi C ⟨_,V⟩;refine wpIn_mono hA ?_;intro e a' Wa hp
  cases e with
  | normal =>
   obtain⟨X,hX,S,A6,f⟩:=hp;have q:=S.same l _ C V rfl;have A7:ro=none->Wa.heap[D]?=some (.deferred (some [])):=λ e=>S.same D _ (m e).1 (b e) rfl;refine⟨_,run_beginRound q (by rw[(A _ _).1]),?_⟩;have e1:({ B .ready none with state:=.busy }:Loop)=B .busy none:=by
    have h8:=(A .ready none).2.2.2.2.2.2.2 .busy none;have j:=(A .ready none).2.1;simp only[j];exact h8
   rw[e1];have A3:l<Wa.heap.size:=(ya.1 q).1;have z:(Wa.putObj l (.loop (B .busy none))).heap[l]?=some (.loop (B .busy none)):=World.putObj_heap_same A3;have A5:ro=none->(Wa.putObj l (.loop (B .busy none))).heap[D]?=some (.deferred (some [])):=λ e=>(yR Y).trans (A7 e);refine wpIn_mono (f _ (hX _ _ A6 (Ext.putObj q C rfl)) ⟨_,z⟩) ?_;have U:∀ (jump:Option Code) (W3:World),KeepsFrom w.heap.size (Wa.putObj l (.loop (B .busy none))) W3 ->
     W3.heap[l]?=some (.loop (B .busy none)) /\
     (Instr.endRound l jump).run P W3=.ok (.bool jump.isNone) (W3.putObj l (.loop (B (if jump.isNone then .ready else .done) jump))) /\
     (W3.putObj l (.loop (B (if jump.isNone then .ready else .done) jump))).heap[l]?=some (.loop (B (if jump.isNone then .ready else .done) jump)) /\
     (ro=none->(W3.putObj l (.loop (B (if jump.isNone then .ready else .done) jump))).heap[D]?=some (.deferred (some []))):=λ jump W3 H=>by
    have G:=H.same _ _ C z rfl;have h4:=run_endRound (P:=P) jump G;rw[(A .busy none).2.2.2.2.2.2.2]at h4;exact⟨G,h4,World.putObj_heap_same (ya.1 G).1,λ e=>(yR Y).trans (H.same _ _ (m e).1 (A5 e) rfl)⟩
   intro e a3 W3 hp
   cases e with
   | normal =>
    obtain⟨H,M⟩:=hp;obtain⟨G,o,O,K⟩:=U none W3 H;exact⟨_,_,o,.inl ⟨rfl,hI _ _ _ M (Ext.putObj G C rfl),O,K⟩⟩
   | ret =>
    obtain⟨H,M⟩:=hp;obtain⟨G,o,O,K⟩:=U (some .ret) W3 H;exact⟨_,_,o,.inr ⟨rfl,.ret,hIx _ _ _ M (Ext.putObj G C rfl),O,K⟩⟩
   | exit id =>
    obtain⟨H,M⟩:=hp;obtain⟨G,o,O,K⟩:=U (some (.exit id)) W3 H;exact⟨_,_,o,.inr ⟨rfl,.exit id,hIx _ _ _ M (Ext.putObj G C rfl),O,K⟩⟩
   | goto t =>
    obtain⟨H,M⟩:=hp;obtain⟨G,o,O,K⟩:=U (some (.goto t)) W3 H;exact⟨_,_,o,.inr ⟨rfl,.goto t,hIx _ _ _ M (Ext.putObj G C rfl),O,K⟩⟩
   | panic ch=>exact hp.elim
   | outgrown=>exact hp.elim
  | exit id=>exact hp.elim
  | goto t=>exact hp.elim
  | ret=>exact hp.elim
  | panic ch=>exact hp.elim
  | outgrown=>exact hp.elim
structure Fr (F:Nat->Prop) (W W':World):Prop where
 os:W'.os=W.os
 tape:W'.tape=W.tape
 output:W'.output=W.output
 size:W.heap.size<=W'.heap.size
 block:∀ k,k<W.heap.size->¬ F k->W'.heap[k]?=W.heap[k]?
theorem Fr.refl (F:Nat->Prop) (W:World):Fr F W W:=⟨rfl,rfl,rfl,ye _,λ _ _ _=>rfl⟩
theorem Fr.trans {F G:Nat->Prop} {X Y Z:World} (h:Fr F X Y) (k:Fr G Y Z) (hG:∀ b,b<X.heap.size->G b->F b):Fr F X Z :=
 ⟨k.os.trans h.os,k.tape.trans h.tape,k.output.trans h.output,yJ h.size k.size,λ b hb hF=>(k.block b (yO hb h.size) λ hg=>hF (hG b hb hg)).trans (h.block b hb hF)⟩
theorem Fr.of_below {F:Nat->Prop} {W W':World} (h:Bw W W'):Fr F W W':=⟨h.os,h.tape,h.output,h.size,λ k hk _=>h.block k hk⟩
theorem Fr.below {F:Nat->Prop} {W W':World} (h:Fr F W W') {B:Nat} (hB:B<=W.heap.size) (hF:∀ k,F k->B<=k):Below B W W' :=
 ⟨h.os,h.tape,h.output,h.size,λ k hk=>h.block k (by omega) λ hf=>kV (hF k hf) (by omega)⟩
theorem Fr.mono {F G:Nat->Prop} {W W':World} (h:Fr F W W') (hFG:∀ k,k<W.heap.size->F k->G k):Fr G W W' :=
 ⟨h.os,h.tape,h.output,h.size,λ k hk hg=>h.block k hk λ hf=>hg (hFG k hk hf)⟩
theorem Fr.get {F:Nat->Prop} {W W':World} (h:Fr F W W') {k:Nat} {o:Obj} (hk:W.heap[k]?=some o) (hF:¬ F k):W'.heap[k]?=some o :=
 (h.block k (ya.1 hk).1 hF).trans hk
def TJ (W:World) (g:List Q) (L:List E) (lb base:Nat) (F:Nat->Prop) (Ts:List (List Pc)):Prop :=
 ∃ (v:Value) (Ss:List HS),W.heap[lb]?=some (.cells #[v] 96 (0,0))/\RS.Own W base v Ss/\Ss.length=Ts.length /\
  (∀ (i:Nat) (S:HS) (T:List Pc),Ss[i]?=some S->Ts[i]?=some T->StT g L T S/\RP.Own W base S.laid ((sortP g T).map (hpT g L))) /\
  F lb/\(∀ k,v.ownBlock=some k->F k)/\(∀ S∈Ss,∀ k,S.laid.ownBlock=some k->F k)/\(∀ k,F k->base<=k/\∃ cs T,W.heap[k]?=some (.cells cs T (0,0)))
theorem TJ.move {W W':World} {g:List Q} {L:List E} {lb base:Nat} {F:Nat->Prop} {Ts:List (List Pc)} (h:TJ W g L lb base F Ts) (hk:∀ k,F k->W'.heap[k]?=W.heap[k]?):TJ W' g L lb base F Ts:=by
 obtain⟨v,N,G,H,J,K,C,B,D,A⟩:=h;refine⟨v,N,(hk lb C).trans G,zk H λ k e=>hk k (B k e),J,λ i S T hS hT=>?_,C,B,D,λ k e=>⟨(A k e).1,(by obtain⟨_,M,T,I⟩:=A k e;exact⟨M,T,(hk k e).trans I⟩)⟩⟩;obtain⟨a,b⟩:=K i S T hS hT;exact⟨a,zk b λ k e=>hk k (D S (yg hS) k e)⟩
theorem TJ.cells {W:World} {g:List Q} {L:List E} {lb base:Nat} {F:Nat->Prop} {Ts:List (List Pc)} (h:TJ W g L lb base F Ts) {k:Nat} (hk:F k):base<=k/\∃ cs T,W.heap[k]?=some (.cells cs T (0,0)):=by
 obtain⟨_,_,_,_,_,_,_,_,_,A⟩:=h;exact A k hk
theorem TJ.lt {W:World} {g:List Q} {L:List E} {lb base:Nat} {F:Nat->Prop} {Ts:List (List Pc)} (h:TJ W g L lb base F Ts) {k:Nat} (hk:F k):k<W.heap.size/\base<=k:=by
 obtain⟨B,C,T,A⟩:=h.cells hk;exact⟨(ya.1 A).1,B⟩
theorem TJ.keep {W W':World} {g:List Q} {L:List E} {lb base:Nat} {F G:Nat->Prop} {Ts:List (List Pc)} (h:TJ W g L lb base F Ts) (f:Fr G W W') (hd:∀ k,F k->¬ G k):TJ W' g L lb base F Ts :=
 h.move λ k hk=>f.block k (h.lt hk).1 (hd k hk)
theorem TJ.below {W W':World} {g:List Q} {L:List E} {lb base:Nat} {F:Nat->Prop} {Ts:List (List Pc)} (h:TJ W g L lb base F Ts) (b:Bw W W'):TJ W' g L lb base F Ts :=
 h.keep (G:=λ _=>False) (Fr.of_below b) λ _ _=>id
theorem TJ.ext {W W':World} {g:List Q} {L:List E} {lb base:Nat} {F:Nat->Prop} {Ts:List (List Pc)} (h:TJ W g L lb base F Ts) {B:Nat} (e:Ext B W W'):TJ W' g L lb base F Ts:=by
 obtain⟨v,O,D,G,I,C,K,J,N,A⟩:=h;exact⟨v,O,e.block _ _ D (.inr rfl),Stab.owns B _ _ _ _ _ _ W W' G e,I,λ i S T hS hT=>⟨(C i S T hS hT).1,Stab.owns B _ _ _ _ _ _ W W' (C i S T hS hT).2 e⟩,K,J,N,λ k hk=>⟨(A k hk).1,(by obtain⟨_,M,T,H⟩:=A k hk;exact⟨M,T,e.block _ _ H (.inr rfl)⟩)⟩⟩
theorem dr {g:List Q} {L:List E} {p:Pc} (hg:g.length<=64) (h:∃ q∈g,q∈p.qs):leastH (hpT g L p)=leastP g p:=by
 obtain⟨i,q,h1,h2,_⟩:=da h;unfold leastH hpT;simp only;rw[h2,vu hg h1]
theorem tf {g:List Q} {L:List E} {T:List Pc} (hg:g.length<=64) (ha:ApartT T) (hin:∀ p∈T,∃ q∈g,q∈p.qs):((sortP g T).map (hpT g L)).Perm (T.map (hpT g L))/\((sortP g T).map (hpT g L)).Pairwise λ a b=>leastH a<leastH b:=by
 refine⟨(bA g T).map _,?_⟩;rw[List.pairwise_map];have h:=oF g T (eN ha hin);refine List.Pairwise.imp_of_mem ?_ h;intro a b hma hmb hlt;rw[dr hg (hin a ((bA g T).mem_iff.1 hma)),dr hg (hin b ((bA g T).mem_iff.1 hmb))];exact hlt
theorem bq {W:World} {g:Nat} {S:HS} {T:TypeId} (h:W.heap[g]?=some (.cells (hsVals S).toArray T (0,0))) :
  W.cell? ⟨g,0,none⟩=some (.slice S.lp S.ln S.lc)/\W.cell? ⟨g,1,none⟩=some (.int .u64 S.set)/\W.cell? ⟨g,2,none⟩=some (.int .u64 S.bord.1)/\W.cell? ⟨g,3,none⟩=some (.int .u64 S.bord.2.1)/\W.cell? ⟨g,4,none⟩=some (.int .u64 S.bord.2.2)/\W.cell? ⟨g,5,none⟩=some (.int .u64 S.joint.1)/\W.cell? ⟨g,6,none⟩=some (.int .u64 S.joint.2.1)/\W.cell? ⟨g,7,none⟩=some (.int .u64 S.joint.2.2)/\W.cell? ⟨g,8,none⟩=some (.int .i64 (S.many 0))/\W.cell? ⟨g,9,none⟩=some (.int .i64 (S.many 1))/\W.cell? ⟨g,10,none⟩=some (.int .i64 (S.many 2))/\W.cell? ⟨g,11,none⟩=some (.int .i64 (S.many 3))/\W.cell? ⟨g,12,none⟩=some (.int .i64 (S.many 4))/\W.cell? ⟨g,13,none⟩=some (.int .i64 (S.many 5))/\W.cell? ⟨g,14,none⟩=some (.int .i64 (S.many 6))/\W.cell? ⟨g,15,none⟩=some (.int .i64 (S.many 7)):=by
 refine⟨?_,?_,?_,?_,?_,?_,?_,?_,?_,?_,?_,?_,?_,?_,?_,?_⟩ <;> (simp only[World.cell?,h];rfl)
theorem vB (p:Option Addr) (n c:Nat) (hn:n<=c) (hc:c<=maxLen) (hp:p=none->c=0) (w:World) :
  Calls Tryz.prog 138 #[.slice p n c] w λ e w'=>e=.returned (.slice p n n)/\w'=w:=by
 have A:c<=9223372036854775807:=by simpa[maxLen]using hc
 go_enter func138,ntmps138
 cases p with
 | none =>
  obtain rfl:=hp rfl;obtain rfl:n=0:=by omega
  go_wp2_with fail;go_ret;exact⟨rfl,rfl⟩
 | some a =>
  go_wp2_with fail;go_ret;exact⟨rfl,rfl⟩
theorem gU {w:World} (x y:W3) (hx:okW x) (hy:okW y) (d:SubW w):Calls Tryz.prog 75 #[w3V x,w3V y] d.1 λ e w'=>e=.returned (w3V (andW x y))/\∃ d':SubW w,w'=d'.1:=by
 refine(both_any x y hx hy d.1).mono ?_;rintro e w' ⟨rfl,A⟩;exact⟨rfl,⟨⟨w',d.2.tm A.below⟩,rfl⟩⟩
theorem or_q {w:World} (x y:W3) (hx:okW x) (hy:okW y) (d:SubW w):Calls Tryz.prog 110 #[w3V x,w3V y] d.1 λ e w'=>e=.returned (w3V (orW x y))/\∃ d':SubW w,w'=d'.1:=by
 refine(mM x y hx hy d.1).mono ?_;rintro e w' ⟨rfl,A⟩;exact⟨rfl,⟨⟨w',d.2.tm A.below⟩,rfl⟩⟩
def putPost (w:World) (s:HS) (ls:List HP) (p:HP) (k:Nat) (c:Int) (bel:W3) (e:Ending) (w':World):Prop :=
 ∃ (s':HS) (ok:Bool),e=.returned (.tuple #[RS.val s',.bool ok])/\(ok=true↔canPut s p c bel)/\(ok=false->s'=s) /\
   (ok=true->s'.set=s.set ||| p.set/\s'.bord=orW s.bord p.bord/\s'.joint=orW s.joint (andW s.bord p.bord)/\s'.many=(λ j=>if j=k then s.many k+1 else s.many j)/\RP.Own w' w.heap.size s'.laid (ls++[p])) /\
   Bw w w'
theorem rV (lp:Option Addr) (ln lc st b0 b1 b2 j0 j1 j2:Nat) (mn:Nat->Nat):RS.val ⟨lp,ln,lc,st,(b0,b1,b2),(j0,j1,j2),mn⟩=.agg #[.slice lp ln lc,.int .u64 st,.int .u64 b0,.int .u64 b1,.int .u64 b2,.int .u64 j0,.int .u64 j1,.int .u64 j2,
  .int .i64 (mn 0),.int .i64 (mn 1),.int .i64 (mn 2),.int .i64 (mn 3),.int .i64 (mn 4),.int .i64 (mn 5),.int .i64 (mn 6),.int .i64 (mn 7)]:=rfl
theorem mq (k:Int) (m:Bool) (t x y:Int) (st b0 b1 b2:Nat):RP.val ⟨⟨k,m,t,x,y⟩,st,(b0,b1,b2)⟩=.agg #[.int .i64 k,.bool m,.int .i64 t,.int .i64 x,.int .i64 y,.int .u64 st,.int .u64 b0,.int .u64 b1,.int .u64 b2]:=rfl
theorem infoPc:(Tryz.prog.info? 152).map (λ i=>(i.zero,i.size,i.bytes))=some (some (.agg #[.int .i64 0,.bool false,.int .i64 0,.int .i64 0,.int .i64 0,.int .u64 0,.int .u64 0,.int .u64 0,.int .u64 0]),9,72):=by kernel_rfl
theorem iU (p:HP):Instr.fill (λ i=>some (i*9,9)) ((Array.range (1*9)).map ((.agg #[.int .i64 0,.bool false,.int .i64 0,.int .i64 0,.int .i64 0,.int .u64 0,.int .u64 0,.int .u64 0,.int .u64 0]:Value).cells[· % (.agg #[.int .i64 0,.bool false,.int .i64 0,.int .i64 0,.int .i64 0,.int .u64 0,.int .u64 0,.int .u64 0,.int .u64 0]:Value).cells.size]!)) [(0,RP.val p)]=some (hpVals p).toArray :=
 Great.fill_whole (s:=9) (by decide) [RP.val p] _ (λ v hv=>by simp only[yU]at hv;subst hv;rfl) (by simp)
theorem qP {W:World} {b b':Nat} {e:TypeId} {size:Nat} {v:Value} {n:Nat} {xs:List Value} (h:W.ownsRow b e size v n xs) (hb:b'<=b):W.ownsRow b' e size v n xs :=
 ⟨h.1,h.2.elim .inl λ ⟨g,cap,cur,h1,h2,h3⟩=>.inr ⟨g,cap,cur,h1,yJ hb h2,h3⟩⟩
theorem zD {W:World} {g:Nat} {cs:List Value} {T:TypeId} {fr:Nat × Nat} (h:W.heap[g]?=some (.cells cs.toArray T fr)):∀ j u,cs[j]?=some u->W.cell? ((⟨g,0,none⟩:Addr).add j)=some u:=by
 intro j u hu;rw[qW];simp[World.cell?,h,hu]
theorem xI {W:World} {base:Nat} {lp:Option Addr} {ln lc:Nat} {ls:List HP} (own:RP.Own W base (.slice lp ln lc) ls) {g:Nat} {p:HP} (hg:W.heap[g]?=some (.cells (hpVals p).toArray 152 (0,0))) (hlen:ls.length<=1000) :
  ∃ v W',(Builtin.append_ #[102,102] 102 #[.slice lp ln ln,.slice (some ⟨g,0,none⟩) 1 1]).run Tryz.prog W=.ok v W'/\RP.Own W' W.heap.size v (ls++[p])/\Bw W W':=by
 obtain⟨L,B,H,D,F⟩:=info_parts infoPc;have G:∀ u∈hpVals p,u.oneCell'=true:=RP.one p;rcases own.2 with⟨C,K⟩|⟨g0,cap,cur,C,K,h3,h4,h5,h6,h7⟩
 ·simp only[yC]at C;obtain⟨rfl,rfl,rfl⟩:=C;obtain rfl:=yT.1 K;obtain⟨v,W',J,I,A,_⟩:=run_append_own (P:=Tryz.prog) (w:=W) W.heap.size 102 102 152 L _ 9 72 underlying102 B H D F rfl (by decide) (.slice none 0 0) 0 [] (kz _ _ _ _) ⟨g,0,none⟩ 1 1 (hpVals p) rfl (zD hg) G (by simp only[maxLen];omega) (by omega) (ye _);exact⟨v,W',J,RP.own_snoc (l:=[]) I,(yf _ W).grown A (ye _) (λ k hk=>by cases hk)⟩
 ·simp only[yC]at C;obtain⟨rfl,rfl,rfl⟩:=C;have M:=World.ownsRow.cells own (g:=g0) rfl;obtain⟨v,W',J,I,A⟩:=run_append_arg_grows (P:=Tryz.prog) (w:=W) 102 102 152 L _ 9 72 underlying102 B H D F rfl (by decide) ⟨g0,0,none⟩ ls.length ls.length (RP.cells ls) (RP.cells_length ls) M ⟨g,0,none⟩ 1 1 (hpVals p) rfl (zD hg) (by omega) (by simp only[maxLen];omega) (by omega);exact⟨v,W',J,RP.own_snoc I,(yf _ W).grown A (ye _) (λ k hk=>by cases hk)⟩
theorem fT {w W1:World} {o1 o2 o3:Obj} (hg:Grew (((w.alloc o1).alloc o2).alloc o3) W1) :
  W1.heap[w.heap.size]?=some o1/\W1.heap[w.heap.size+1]?=some o2/\W1.heap[w.heap.size+1+1]?=some o3/\Bw w W1/\w.heap.size+3<=W1.heap.size:=by
 have A:=hg.below;have H:(((w.alloc o1).alloc o2).alloc o3).heap.size=w.heap.size+3:=by simp
 have C:(((w.alloc o1).alloc o2).alloc o3).heap[w.heap.size]?=some o1:=(Below.heap_alloc _ _ _ (by simp;omega)).trans ((Below.heap_alloc _ _ _ (by simp)).trans (yd w _));have B:(((w.alloc o1).alloc o2).alloc o3).heap[w.heap.size+1]?=some o2:=(Below.heap_alloc _ _ _ (by simp)).trans (bL w _ _);have D:=db w o1 o2 o3;have F:Bw w (((w.alloc o1).alloc o2).alloc o3):=(((yf _ w).alloc (ye _) _).alloc (by simp) _).alloc (by simp;omega) _;have G:=A.size;exact⟨(A.block _ (by omega)).trans C,(A.block _ (by omega)).trans B,(A.block _ (by omega)).trans D,F.trans (A.mono (by omega)),by omega⟩
theorem aC (xs:Array Value) (i:Nat) (v:Value) (h:xs[i]?=some v) (W:World):(part 103 xs i).run Tryz.prog W=.ok v W:=by
 simp[part,go_sem,h]
theorem dW (x y:W3) (W:World):(Op.equalIn 10000 105 (.agg #[.int .u64 x.1,.int .u64 x.2.1,.int .u64 x.2.2]) (.agg #[.int .u64 y.1,.int .u64 y.2.1,.int .u64 y.2.2])).run Tryz.prog W=.ok (decide (x=y)) W:=by
 obtain⟨D,G,I⟩:=x;obtain⟨F,H,B⟩:=y;have e:decide (((D,G,I):W3)=(F,H,B))=(((D:Int)==(F:Int))&&(((G:Int)==(H:Int))&&((I:Int)==(B:Int)))):=by
  rw[YL,yS,Yq,Yq,beq_iff_eq,beq_iff_eq,beq_iff_eq,YW,YW];omega
 obtain⟨S,J⟩:∃ i,Tryz.prog.info? 103=some i:=Option.isSome_iff_exists.1 (by kernel_rfl);rw[e,run_equalIn_array W 9999 _ _ underlying105 J];simp only;have R:Tryz.prog.cellsOf 103=1:=by kernel_rfl
 rw[R,show List.range 3=[0,1,2]from rfl];generalize (D:Int)=a0;generalize (G:Int)=a1;generalize (I:Int)=a2;generalize (F:Int)=c0;generalize (H:Int)=c1;generalize (B:Int)=c2;have L:=aC #[.int .u64 a0,.int .u64 a1,.int .u64 a2] (0*1) (.int .u64 a0) rfl;have M:=aC #[.int .u64 a0,.int .u64 a1,.int .u64 a2] (1*1) (.int .u64 a1) rfl;have C:=aC #[.int .u64 a0,.int .u64 a1,.int .u64 a2] (2*1) (.int .u64 a2) rfl;have N:=aC #[.int .u64 c0,.int .u64 c1,.int .u64 c2] (0*1) (.int .u64 c0) rfl;have O:=aC #[.int .u64 c0,.int .u64 c1,.int .u64 c2] (1*1) (.int .u64 c1) rfl;have K:=aC #[.int .u64 c0,.int .u64 c1,.int .u64 c2] (2*1) (.int .u64 c2) rfl;have A:∀ a c:Int,(Op.equalIn 9999 103 (.int .u64 a) (.int .u64 c)).run Tryz.prog W=.ok (a==c) W:=λ a c=>run_equalIn_int (P:=Tryz.prog) W 9998 103 .u64 .u64 a c underlying103;simp only[Op.eqItems,yG,L,N,A,yz]
 cases a0==c0 <;> cases h1:a1==c1 <;> cases h2:a2==c2 <;> simp only[Bool.not_true,Bool.not_false,if_true,Yn,if_false,yH,yz,yG,M,C,O,K,A,kT,Bool.and_false,kU,Bool.false_and,h1,h2]
theorem cP {P:Program} {T:TypeId} (hT:∀ w,(isAgg T).run P w=.ok false w) {W:World} {g i:Nat} {cs:Array Value} {t:TypeId} (hg:W.heap[g]?=some (.cells cs t (0,0))) {u:Value} (hi:cs[i]?=some u) (hz:∀ w,(sizeOf T).run P w=.ok 1 w) {v:Value} (hv:v.oneCell'=true) :
  (Instr.storeAt T (.pointer (some ⟨g,i,none⟩)) v).run P W=.ok () (W.setCell ⟨g,i,none⟩ v):=by
 have C:=frozen_of_row W g i cs t hg;have D:W.cell? ⟨g,i,none⟩=some u:=by simp[World.cell?,hg,hi]
 simp only[Instr.storeAt,Instr.sureAddr,yG,yH,yz];have A:v.cells=#[v]:=by cases v <;> first|rfl|(simp[Value.oneCell']at hv)
 simp only[storeVar,yG,hz,yz,A,YK,yA,yN,YM,if_true];have B:(⟨g,i,none⟩:Addr).add 0=⟨g,i,none⟩:=rfl;simp only[storeCells,store,B]
 cases v <;> first|(simp[Value.oneCell']at hv;done)|simp[Sem.run,D,C,yG,Result.andThen]
theorem jF (n:Nat) (W:World):(Instr.fieldAt 108 (.pointer (some ⟨n,0,none⟩)) 0).run Tryz.prog W=.ok (.pointer (some ⟨n,0,none⟩)) W:=by kernel_rfl
theorem zq {W:World} {base:Nat} {e:TypeId} {size:Nat} {v:Value} {n:Nat} {xs:List Value} (h:W.ownsRow base e size v n xs) {a:Addr} (ha:a.block<base) (u:Value):(W.setCell a u).ownsRow base e size v n xs :=
 ⟨h.1,h.2.elim .inl λ ⟨g,cap,cur,h1,h2,h3,h4⟩=>.inr ⟨g,cap,cur,h1,h2,(yq _ _ _ _ (by omega)).trans h3,h4⟩⟩
theorem uP {W:World} {A:Nat} {cs:Array Value} {T:TypeId} (h:W.heap[A]?=some (.cells cs T (0,0))) (v2 v3 v4 v5 v6 v7:Value) :
  ((((((W.setCell ⟨A,2,none⟩ v2).setCell ⟨A,3,none⟩ v3).setCell ⟨A,4,none⟩ v4).setCell ⟨A,5,none⟩ v5).setCell ⟨A,6,none⟩ v6).setCell ⟨A,7,none⟩ v7).heap[A]?=some (.cells ((((((cs.setIfInBounds 2 v2).setIfInBounds 3 v3).setIfInBounds 4 v4).setIfInBounds 5 v5).setIfInBounds 6 v6).setIfInBounds 7 v7) T (0,0)) :=
 yI _ _ _ _ _ _ (yI _ _ _ _ _ _ (yI _ _ _ _ _ _ (yI _ _ _ _ _ _ (yI _ _ _ _ _ _ (yI _ _ _ _ _ _ h)))))
theorem six_other (W:World) {A k:Nat} (h:k≠A) (v2 v3 v4 v5 v6 v7:Value):((((((W.setCell ⟨A,2,none⟩ v2).setCell ⟨A,3,none⟩ v3).setCell ⟨A,4,none⟩ v4).setCell ⟨A,5,none⟩ v5).setCell ⟨A,6,none⟩ v6).setCell ⟨A,7,none⟩ v7).heap[k]?=W.heap[k]? :=
 (yq _ _ _ _ h).trans ((yq _ _ _ _ h).trans ((yq _ _ _ _ h).trans ((yq _ _ _ _ h).trans ((yq _ _ _ _ h).trans (yq _ _ _ _ h)))))
theorem uR {w W:World} {B A:Nat} (h:Below B w W) (hA:B<=A) (v2 v3 v4 v5 v6 v7:Value):Below B w ((((((W.setCell ⟨A,2,none⟩ v2).setCell ⟨A,3,none⟩ v3).setCell ⟨A,4,none⟩ v4).setCell ⟨A,5,none⟩ v5).setCell ⟨A,6,none⟩ v6).setCell ⟨A,7,none⟩ v7) :=
 (((((h.setCell (p:=⟨A,2,none⟩) hA v2).setCell (p:=⟨A,3,none⟩) hA v3).setCell (p:=⟨A,4,none⟩) hA v4).setCell (p:=⟨A,5,none⟩) hA v5).setCell (p:=⟨A,6,none⟩) hA v6).setCell (p:=⟨A,7,none⟩) hA v7
theorem tO {W:World} {base:Nat} {e:TypeId} {size:Nat} {v:Value} {n:Nat} {xs:List Value} (h:W.ownsRow base e size v n xs) {A:Nat} (hA:A<base) (v2 v3 v4 v5 v6 v7:Value):((((((W.setCell ⟨A,2,none⟩ v2).setCell ⟨A,3,none⟩ v3).setCell ⟨A,4,none⟩ v4).setCell ⟨A,5,none⟩ v5).setCell ⟨A,6,none⟩ v6).setCell ⟨A,7,none⟩ v7).ownsRow base e size v n xs :=
 zq (zq (zq (zq (zq (zq h (a:=⟨A,2,none⟩) hA v2) (a:=⟨A,3,none⟩) hA v3) (a:=⟨A,4,none⟩) hA v4) (a:=⟨A,5,none⟩) hA v5) (a:=⟨A,6,none⟩) hA v6) (a:=⟨A,7,none⟩) hA v7
def qeg (A:Nat) (W3:World) (lp:Option Addr) (ln lc:Nat) (ls:List HP) (p:HP):Nat->Value->World->Prop
 | 0,u,_=>u=.pointer (some ⟨A,0,none⟩)
 | 1,u,_=>u=.slice lp ln lc
 | 2,u,_=>u=.slice lp ln ln
 | 3,u,_=>u=RP.val p
 | 4,u,W=>∃ g,u=.slice (some ⟨g,0,none⟩) 1 1/\W.heap[g]?=some (.cells (hpVals p).toArray 152 (0,0))
 | 5,u,W=>RP.Own W W3.heap.size u (ls++[p])
 | _,u,_=>u=.pointer (some ⟨A,0,none⟩)
theorem uG {A:Nat} {W3:World} {lp:Option Addr} {ln lc:Nat} {ls:List HP} {p:HP} (i:Nat) (u:Value) (W W':World) (h:qeg A W3 lp ln lc ls p i u W) (e:Bw W W'):qeg A W3 lp ln lc ls p i u W':=by
 unfold qeg at *;split at h <;> first|exact h|skip
 ·obtain⟨g,C,B⟩:=h;exact⟨g,C,(e.block _ (ya.1 B).1).trans B⟩
 exact qf h e
theorem uM (w:World) (bb:Nat) (bv:BV) (t:Tk) (L:List E) (ps:List (List HP)) (bel:W3) (hb:BdAt w bb bv t L ps bel) (hbel:okW bel)
  (s:HS) (ls:List HP) (base:Nat) (hs:RP.Own w base s.laid ls) (hs1:s.set<2 ^ 64) (hs2:okW s.bord) (hs3:okW s.joint) (hs4:∀ k,s.many k<=64) (hls:ls.length<=64)
  (p:HP) (hp1:p.set<2 ^ 64) (hp2:okW p.bord) (k:Nat) (hk:p.ld.kind=k) (c:Int) (hc:t.counts[k]?=some c) (hc0:0<=c/\c<=16) (hk8:k<8) :
  Calls Tryz.prog 112 #[.pointer (some ⟨bb,0,none⟩),RS.val s,RP.val p] w (putPost w s ls p k c bel):=by
 obtain⟨l,X,r,N,⟨F,D,C⟩,⟨O,S,R⟩,B⟩:=s;obtain⟨⟨kk,m,U,x,y⟩,pst,⟨q0,q1,q2⟩⟩:=p;simp only at hk hs1 hp1;subst hk;have HB:=yK hb;clear hb;have G1:=yK hbel;clear hbel;have I2:=yK hs;clear hs;have H2:=yK hs2;clear hs2;have H3:=yK hs3;clear hs3;have H4:=yK hs4;clear hs4;have D8:=yK hp2;clear hp2;have HC:=yK hc;clear hc;rw[rV,mq];generalize F2:putPost w _ ls _ k c bel=Po;have B7:=yK F2;clear F2;go_enter func112,ntmps112;go_wp2_with fail;refine(both_any (F,D,C) (q0,q1,q2) H2.o D8.o _).mono ?_;rintro e w1 ⟨rfl,hg⟩;obtain⟨hA,hP,hR,hB,F8⟩:=fT hg;clear hg;unfold w3V andW;simp only;go_wp2_with fail;have hJ:=yd w1 (.cells #[.int .u64 (F &&& q0:Nat),.int .u64 (D &&& q1:Nat),.int .u64 (C &&& q2:Nat)] 105);have I0:=heapO (.cells #[.int .u64 (F &&& q0:Nat),.int .u64 (D &&& q1:Nat),.int .u64 (C &&& q2:Nat)] 105) hA;have H5:=heapO (.cells #[.int .u64 (F &&& q0:Nat),.int .u64 (D &&& q1:Nat),.int .u64 (C &&& q2:Nat)] 105) hP;have H8:=heapO (.cells #[.int .u64 (F &&& q0:Nat),.int .u64 (D &&& q1:Nat),.int .u64 (C &&& q2:Nat)] 105) hR;have H7:=hB.alloc hB.size (.cells #[.int .u64 (F &&& q0:Nat),.int .u64 (D &&& q1:Nat),.int .u64 (C &&& q2:Nat)] 105);have B4:(w1.alloc (.cells #[.int .u64 (F &&& q0:Nat),.int .u64 (D &&& q1:Nat),.int .u64 (C &&& q2:Nat)] 105)).heap.size=w1.heap.size+1:=yp _ _;clear hA hP hR hB;revert hJ I0 H5 H8 H7 B4;generalize w1.alloc (.cells #[.int .u64 (F &&& q0:Nat),.int .u64 (D &&& q1:Nat),.int .u64 (C &&& q2:Nat)] 105)=W;revert F8;generalize w1.heap.size=J;intro F8 hJ hA hP hR hB B4;have A7:=HB.o.keep hB;have G5:k<t.counts.length:=(yc.1 HC.o).1;obtain⟨ca,A9,H1,F3⟩:∃ (ca:Addr) (A9:Nat),bv.c=.slice (some ca) t.counts.length A9/\∀ d:SubW W,d.1.cell? (ca.add k)=some (.int .i64 c):=by
  rcases A7.counts with⟨_,h0⟩|⟨ca,A9,h1,h2,h3,h4⟩
  ·rw[h0]at G5;simp at G5
  refine⟨ca,A9,h1,λ d=>?_⟩;have:=(h4.below d.2).at_ k c HC.o 0 (.int .i64 c) rfl;simpa[RI]using this
 have z:=A7.blk;rw[H1]at z;have a1:∀ d:SubW W,d.1.cell? ⟨w.heap.size,1,none⟩=some (.int .u64 N):=λ d=>by simp[World.cell?,d.block hA]
 have ak:∀ d:SubW W,d.1.cell? ⟨w.heap.size,8+k,none⟩=some (.int .i64 (B k)):=λ d=>by
  rcases (by omega:k=0\/k=1\/k=2\/k=3\/k=4\/k=5\/k=6\/k=7)with rfl|rfl|rfl|rfl|rfl|rfl|rfl|rfl <;> simp[World.cell?,d.block hA]
 have p0:∀ d:SubW W,d.1.cell? ⟨w.heap.size+1,0,none⟩=some (.int .i64 k):=λ d=>by simp[World.cell?,d.block hP]
 have p5:∀ d:SubW W,d.1.cell? ⟨w.heap.size+1,5,none⟩=some (.int .u64 pst):=λ d=>by simp[World.cell?,d.block hP]
 have D4:∀ d:SubW W,d.1.cell? ⟨bb,2,none⟩=some (.slice (some ca) t.counts.length A9):=λ d=>by simp[World.cell?,d.block z]
 have D2:∀ d:SubW W,d.1.cell? ⟨bb,8,none⟩=some (.int .u64 bel.1):=λ d=>by simp[World.cell?,d.block z]
 have D0:∀ d:SubW W,d.1.cell? ⟨bb,9,none⟩=some (.int .u64 bel.2.1):=λ d=>by simp[World.cell?,d.block z]
 have A3:∀ d:SubW W,d.1.cell? ⟨bb,10,none⟩=some (.int .u64 bel.2.2):=λ d=>by simp[World.cell?,d.block z]
 have J0:∀ d:SubW W,d.1.cell? ⟨J,0,none⟩=some (.int .u64 (F &&& q0:Nat)):=λ d=>by simp[World.cell?,d.block hJ]
 have J1:∀ d:SubW W,d.1.cell? ⟨J,1,none⟩=some (.int .u64 (D &&& q1:Nat)):=λ d=>by simp[World.cell?,d.block hJ]
 have J2:∀ d:SubW W,d.1.cell? ⟨J,2,none⟩=some (.int .u64 (C &&& q2:Nat)):=λ d=>by simp[World.cell?,d.block hJ]
 clear z;have cc:=F3;clear F3;have u1:=bB hs1 hp1;by_cases h1:N &&& pst=0
 case neg =>
  have v1:(((N &&& pst:Nat):Int) != 0)=true:=by simpa using h1
  have HN:Hid ¬ canPut ⟨l,X,r,N,(F,D,C),(O,S,R),B⟩ ⟨⟨k,m,U,x,y⟩,pst,(q0,q1,q2)⟩ c bel:=yK λ h=>h1 h.1;clear h1;refine zg 35 (by kernel_rfl) (by kernel_rfl) ?_;simp only[yh,yj,yi,yl]
  repeat(go_big_quiet_step (fail))
  refine wpQuiet_nil ?_;intro dq;have H:=dq.block hA;have G:=dq.block hR;have M:=hB.tm dq.2;revert H G M;generalize dq.1=W3;intro H G M;clear hJ hA hP hR hB B4 A7 a1 p0 p5 ak cc D4 D2 D0 A3 J0 J1 J2;go_wp2_with (first
   | (refine Ya rfl 108 _ rfl w.heap.size rfl 108 _ (0,0) _ H underlying108 rfl sizeS ?_)
   | (refine wpList_store_row rfl 108 _ _ rfl (w.heap.size+1+1) rfl 108 _ #[.slice l X r,.int .u64 N,.int .u64 F,.int .u64 D,.int .u64 C,.int .u64 O,.int .u64 S,.int .u64 R,.int .i64 (B 0),.int .i64 (B 1),.int .i64 (B 2),.int .i64 (B 3),.int .i64 (B 4),.int .i64 (B 5),.int .i64 (B 6),.int .i64 (B 7)] rfl G sizeS rfl (by simp[Value.oneCell']) ?_))
  refine Yb (zI rfl underlying108 rfl _ _ (w.heap.size+1+1) #[.slice l X r,.int .u64 N,.int .u64 F,.int .u64 D,.int .u64 C,.int .u64 O,.int .u64 S,.int .u64 R,.int .i64 (B 0),.int .i64 (B 1),.int .i64 (B 2),.int .i64 (B 3),.int .i64 (B 4),.int .i64 (B 5),.int .i64 (B 6),.int .i64 (B 7)] (0,0) (.bool false) (setRow_heap _ _ _ _ _ _ G) sizeS rfl rfl) rfl ?_;rw[<- B7.o];exact⟨⟨l,X,r,N,(F,D,C),(O,S,R),B⟩,false,rfl,⟨λ h=>(by cases h),λ h=>(HN.o h).elim⟩,λ _=>rfl,λ h=>(by cases h),zi M (by omega) _⟩
 have v1:(((N &&& pst:Nat):Int) != 0)=false:=by simpa using h1
 have H6:=yK h1;clear h1;by_cases h2:(B k:Int)<c
 case neg =>
  have v2:decide (c<=(B k:Int))=true:=by simp;omega
  have HN:Hid ¬ canPut ⟨l,X,r,N,(F,D,C),(O,S,R),B⟩ ⟨⟨k,m,U,x,y⟩,pst,(q0,q1,q2)⟩ c bel:=yK λ h=>h2 (by simpa using h.2.1);clear h2;refine zg 35 (by kernel_rfl) (by kernel_rfl) ?_;simp only[yh,yj,yi,yl]
  repeat(go_big_quiet_step (fail))
  refine wpQuiet_nil ?_;intro dq;have H:=dq.block hA;have G:=dq.block hR;have M:=hB.tm dq.2;revert H G M;generalize dq.1=W3;intro H G M;clear hJ hA hP hR hB B4 A7 a1 p0 p5 ak cc D4 D2 D0 A3 J0 J1 J2;go_wp2_with (first
   | (refine Ya rfl 108 _ rfl w.heap.size rfl 108 _ (0,0) _ H underlying108 rfl sizeS ?_)
   | (refine wpList_store_row rfl 108 _ _ rfl (w.heap.size+1+1) rfl 108 _ #[.slice l X r,.int .u64 N,.int .u64 F,.int .u64 D,.int .u64 C,.int .u64 O,.int .u64 S,.int .u64 R,.int .i64 (B 0),.int .i64 (B 1),.int .i64 (B 2),.int .i64 (B 3),.int .i64 (B 4),.int .i64 (B 5),.int .i64 (B 6),.int .i64 (B 7)] rfl G sizeS rfl (by simp[Value.oneCell']) ?_))
  refine Yb (zI rfl underlying108 rfl _ _ (w.heap.size+1+1) #[.slice l X r,.int .u64 N,.int .u64 F,.int .u64 D,.int .u64 C,.int .u64 O,.int .u64 S,.int .u64 R,.int .i64 (B 0),.int .i64 (B 1),.int .i64 (B 2),.int .i64 (B 3),.int .i64 (B 4),.int .i64 (B 5),.int .i64 (B 6),.int .i64 (B 7)] (0,0) (.bool false) (setRow_heap _ _ _ _ _ _ G) sizeS rfl rfl) rfl ?_;rw[<- B7.o];exact⟨⟨l,X,r,N,(F,D,C),(O,S,R),B⟩,false,rfl,⟨λ h=>(by cases h),λ h=>(HN.o h).elim⟩,λ _=>rfl,λ h=>(by cases h),zi M (by omega) _⟩
 have v2:decide (c<=(B k:Int))=false:=by simp;omega
 have I1:=yK h2;clear h2;obtain⟨z0,z1,z2,hz⟩:∃ z0 z1 z2,andW (andW (F,D,C) (q0,q1,q2)) bel=(z0,z1,z2):=⟨_,_,_,rfl⟩;have B2:∀ d:SubW W,Calls Tryz.prog 75 #[.agg #[.int .u64 (F &&& q0:Nat),.int .u64 (D &&& q1:Nat),.int .u64 (C &&& q2:Nat)],.agg #[.int .u64 bel.1,.int .u64 bel.2.1,.int .u64 bel.2.2]] d.1
   λ e w'=>e=.returned (.agg #[.int .u64 z0,.int .u64 z1,.int .u64 z2])/\∃ d':SubW W,w'=d'.1:=λ d=>by
  have:=gU (andW (F,D,C) (q0,q1,q2)) bel (gM D8.o) G1.o d;rw[hz]at this;exact this
 have HZ:=yK hz;clear hz;have A2:=yK B2;clear B2;have C0:∀ d:SubW W,(Op.equalIn 10000 105 (.agg #[.int .u64 z0,.int .u64 z1,.int .u64 z2]) (.agg #[.int .u64 0,.int .u64 0,.int .u64 0])).run Tryz.prog d.1=.ok (decide (((z0,z1,z2):W3)=(0,0,0))) d.1:=λ d=>dW (z0,z1,z2) (0,0,0) d.1;by_cases h3:((z0,z1,z2):W3)=(0,0,0)
 case neg =>
  have E0:∀ d:SubW W,(Op.equalIn 10000 105 (.agg #[.int .u64 z0,.int .u64 z1,.int .u64 z2]) (.agg #[.int .u64 0,.int .u64 0,.int .u64 0])).run Tryz.prog d.1=.ok false d.1:=λ d=>by rw[C0 d,yv h3]
  clear C0;have HN:Hid ¬ canPut ⟨l,X,r,N,(F,D,C),(O,S,R),B⟩ ⟨⟨k,m,U,x,y⟩,pst,(q0,q1,q2)⟩ c bel:=yK λ h=>h3 (HZ.o▸h.2.2);clear h3;refine zg 35 (by kernel_rfl) (by kernel_rfl) ?_;simp only[yh,yj,yi,yl]
  repeat(go_big_quiet_step ((exact A2.o _)))
  refine wpQuiet_nil ?_;intro dq;have H:=dq.block hA;have G:=dq.block hR;have M:=hB.tm dq.2;revert H G M;generalize dq.1=W3;intro H G M;clear hJ hA hP hR hB B4 A7 a1 p0 p5 ak cc D4 D2 D0 A3 J0 J1 J2;go_wp2_with (first
   | (refine Ya rfl 108 _ rfl w.heap.size rfl 108 _ (0,0) _ H underlying108 rfl sizeS ?_)
   | (refine wpList_store_row rfl 108 _ _ rfl (w.heap.size+1+1) rfl 108 _ #[.slice l X r,.int .u64 N,.int .u64 F,.int .u64 D,.int .u64 C,.int .u64 O,.int .u64 S,.int .u64 R,.int .i64 (B 0),.int .i64 (B 1),.int .i64 (B 2),.int .i64 (B 3),.int .i64 (B 4),.int .i64 (B 5),.int .i64 (B 6),.int .i64 (B 7)] rfl G sizeS rfl (by simp[Value.oneCell']) ?_))
  refine Yb (zI rfl underlying108 rfl _ _ (w.heap.size+1+1) #[.slice l X r,.int .u64 N,.int .u64 F,.int .u64 D,.int .u64 C,.int .u64 O,.int .u64 S,.int .u64 R,.int .i64 (B 0),.int .i64 (B 1),.int .i64 (B 2),.int .i64 (B 3),.int .i64 (B 4),.int .i64 (B 5),.int .i64 (B 6),.int .i64 (B 7)] (0,0) (.bool false) (setRow_heap _ _ _ _ _ _ G) sizeS rfl rfl) rfl ?_;rw[<- B7.o];exact⟨⟨l,X,r,N,(F,D,C),(O,S,R),B⟩,false,rfl,⟨λ h=>(by cases h),λ h=>(HN.o h).elim⟩,λ _=>rfl,λ h=>(by cases h),zi M (by omega) _⟩
 have E0:∀ d:SubW W,(Op.equalIn 10000 105 (.agg #[.int .u64 z0,.int .u64 z1,.int .u64 z2]) (.agg #[.int .u64 0,.int .u64 0,.int .u64 0])).run Tryz.prog d.1=.ok true d.1:=λ d=>by rw[C0 d,yw h3]
 clear C0;have H9:=yK h3;clear h3;refine zg 35 (by kernel_rfl) (by kernel_rfl) ?_;simp only[yh,yj,yi,yl]
 repeat(go_big_quiet_step ((exact A2.o _)))
 refine wpQuiet_nil ?_;intro dq;have H:=dq.block hA;have A5:=dq.block hP;have G:=dq.block hR;have B0:=dq.block hJ;have M:=hB.tm dq.2;have hs3:=dq.2.size;revert H A5 G B0 M hs3;generalize dq.1=W3;intro H A5 G B0 M hs3;clear hJ hA hP hR hB A7 a1 p0 p5 ak cc D4 D2 D0 A3 J0 J1 J2 E0 A2 u1 v1 v2;go_wp2_with fail;have E5:W3.heap[w.heap.size+1]?=some (.cells (hpVals ⟨⟨k,m,U,x,y⟩,pst,(q0,q1,q2)⟩).toArray 152 (0,0)):=A5;have B5:RP.Own W3 base (.slice l X r) ls:=qf I2.o M;have E1:=yK B5;clear B5;refine wp_region_held 7 84 [] (by kernel_rfl) (by kernel_rfl) rfl (λ W=>Below W3.heap.size W3 W) (qeg w.heap.size W3 l X r ls ⟨⟨k,m,U,x,y⟩,pst,(q0,q1,q2)⟩) (λ W W' h e=>h.tm e) uG (Joins.below_draws _ W3 1) ?_ ?_
 ·simp only[yh,yj,heldFrom,heldAt];refine⟨?_,?_,?_,?_,?_,?_,?_,trivial⟩
  ·intro b W vals K hI;have e:b.eval (.tmp 4)=.pointer (some ⟨w.heap.size,0,none⟩):=(K.was 4 (by kernel_rfl)).trans rfl;refine lu_v (I:=Instr.fieldAt 108 (b.eval (.tmp 4)) 0) rfl ?_ ⟨yf _ _,rfl⟩;rw[e];exact jF _ _
  ·intro b W vals K hI;obtain⟨e,f⟩:=K.val 0 50 (by kernel_rfl);have f':vals 0=.pointer (some ⟨w.heap.size,0,none⟩):=f;refine lu_v (I:=Instr.loadAt 102 (b.eval (.tmp 50))) rfl ?_ ⟨yf _ _,rfl⟩;rw[e,f'];exact qh isAgg102 (by simp[World.cell?,(hI.block _ (ya.1 H).1).trans H])
  ·intro b W vals K hI;obtain⟨e,f⟩:=K.val 1 51 (by kernel_rfl);have f':vals 1=.slice l X r:=f;refine zS (args:=#[.slice l X r]) rfl (by simp only[Yt,yM,Yh,e,f']) (enters_of func138 (by kernel_rfl) rfl) ?_;have E3:X<=r/\r<=maxLen/\(l=none->r=0):=by
    rcases E1.o.2 with⟨h1,h2⟩|⟨g0,cap,cur,h1,h2,h3,h4,h5,h6⟩
    ·simp only[yC]at h1;obtain⟨rfl,rfl,rfl⟩:=h1;exact⟨ye _,by decide,λ _=>rfl⟩
    simp only[yC]at h1;obtain⟨rfl,rfl,rfl⟩:=h1;exact⟨h4,h5,λ h=>by cases h⟩
   refine(vB l X r E3.1 E3.2.1 E3.2.2 W).mono ?_;rintro e w' ⟨rfl,rfl⟩;exact⟨_,rfl,yf _ _,rfl⟩
  ·intro b W vals K hI;have e:b.eval (.tmp 5)=.pointer (some ⟨w.heap.size+1,0,none⟩):=(K.was 5 (by kernel_rfl)).trans rfl;refine lu_v (I:=Instr.loadAt 152 (b.eval (.tmp 5))) rfl ?_ ⟨yf _ _,rfl⟩;rw[e];have:=run_loadVar_row (P:=Tryz.prog) W (w.heap.size+1) 152 152 _ (0,0) _ ((hI.block _ (ya.1 E5).1).trans E5) underlying152 rfl sizeP;simp only[Instr.loadAt,Instr.sureAddr,yG,yH,yz,this,REnc.val];rfl
  ·intro b W vals K hI;obtain⟨e,f⟩:=K.val 3 53 (by kernel_rfl);have f':vals 3=RP.val ⟨⟨k,m,U,x,y⟩,pst,(q0,q1,q2)⟩:=f;obtain⟨iI,G8,H0,E6,I5⟩:=info_parts infoPc;refine qV rfl (e.trans f') underlying102 G8 H0 (by rw[E6];decide) (by rw[E6];decide) (cells:=(hpVals ⟨⟨k,m,U,x,y⟩,pst,(q0,q1,q2)⟩).toArray) (by rw[E6];exact iU _) ?_;exact⟨(yf _ W).alloc (ye _) _,W.heap.size,rfl,yd W _⟩
  ·intro b W vals K hI;obtain⟨e1,f1⟩:=K.val 2 52 (by kernel_rfl);obtain⟨e2,f2⟩:=K.val 4 54 (by kernel_rfl);have g1:vals 2=.slice l X X:=f1;obtain⟨g,g2,hg⟩:∃ g,vals 4=.slice (some ⟨g,0,none⟩) 1 1/\W.heap[g]?=some (.cells (hpVals ⟨⟨k,m,U,x,y⟩,pst,(q0,q1,q2)⟩).toArray 152 (0,0)):=f2;obtain⟨v,W',hr,ho,G7⟩:=xI (qf E1.o hI) hg (by omega);refine qI rfl (e1.trans g1) (e2.trans g2) hr ⟨G7,?_⟩;exact qP ho hI.size
  intro b W vals K hI;have e:b.eval (.tmp 4)=.pointer (some ⟨w.heap.size,0,none⟩):=(K.was 4 (by kernel_rfl)).trans rfl;refine lu_v (I:=Instr.fieldAt 108 (b.eval (.tmp 4)) 0) rfl ?_ ⟨yf _ _,rfl⟩;rw[e];exact jF _ _
 ·intro W vals hI hf;have g0:vals 0=.pointer (some ⟨w.heap.size,0,none⟩):=hf 0 (by decide);have g1:vals 1=.slice l X r:=hf 1 (by decide);have g2:vals 2=.slice l X X:=hf 2 (by decide);have g3:vals 3=RP.val ⟨⟨k,m,U,x,y⟩,pst,(q0,q1,q2)⟩:=hf 3 (by decide);obtain⟨g,g4,_⟩:∃ g,vals 4=.slice (some ⟨g,0,none⟩) 1 1/\W.heap[g]?=some (.cells (hpVals ⟨⟨k,m,U,x,y⟩,pst,(q0,q1,q2)⟩).toArray 152 (0,0)):=hf 4 (by decide);have g5:RP.Own W W3.heap.size (vals 5) (ls++[⟨⟨k,m,U,x,y⟩,pst,(q0,q1,q2)⟩]):=hf 5 (by decide);have g6:vals 6=.pointer (some ⟨w.heap.size,0,none⟩):=hf 6 (by decide);obtain⟨np,nc,hn⟩:=g5.has.slice;rw[hn]at g5;rw[mq]at g3;have E7:=(hI.block _ (ya.1 H).1).trans H;have F1:=(hI.block _ (ya.1 A5).1).trans A5;have G3:=(hI.block _ (ya.1 G).1).trans G;have F9:=(hI.block _ (ya.1 B0).1).trans B0;have G0:=M.tm hI;simp only[yh,yj,Yk,YD,Yj,Yf,yM,Yh,putAll,Act.put,yr,yF,yE,g0,g1,g2,g3,g4,hn,g6];show wpActs _ _ _ _ 0 [7] _ _;refine zJ (i:=7) (T:=102) (x:=.tmp 56) (y:=.tmp 55) (q:=⟨w.heap.size,0,none⟩) (v:=.slice np (ls++[⟨⟨k,m,U,x,y⟩,pst,(q0,q1,q2)⟩]:List HP).length nc) (w':=W.setCell ⟨w.heap.size,0,none⟩ (.slice np (ls++[⟨⟨k,m,U,x,y⟩,pst,(q0,q1,q2)⟩]:List HP).length nc)) rfl rfl rfl ?_ ?_ ?_ trivial ?_
  ·rfl
  ·rfl
  ·exact cP isAgg102 E7 rfl sizeOf102 rfl
  refine aT ?_;have A0:(W.setCell ⟨w.heap.size,0,none⟩ (.slice np (ls++[⟨⟨k,m,U,x,y⟩,pst,(q0,q1,q2)⟩]:List HP).length nc)).heap[w.heap.size]?=some (.cells #[.slice np (ls++[⟨⟨k,m,U,x,y⟩,pst,(q0,q1,q2)⟩]:List HP).length nc,.int .u64 N,.int .u64 F,.int .u64 D,.int .u64 C,.int .u64 O,.int .u64 S,.int .u64 R,.int .i64 (B 0),.int .i64 (B 1),.int .i64 (B 2),.int .i64 (B 3),.int .i64 (B 4),.int .i64 (B 5),.int .i64 (B 6),.int .i64 (B 7)] 108 (0,0)):=yI _ _ _ _ _ _ E7;have B3:=(yq W ⟨w.heap.size,0,none⟩ (w.heap.size+1) (.slice np (ls++[⟨⟨k,m,U,x,y⟩,pst,(q0,q1,q2)⟩]:List HP).length nc) (by simp)).trans F1;have C7:=(yq W ⟨w.heap.size,0,none⟩ (w.heap.size+1+1) (.slice np (ls++[⟨⟨k,m,U,x,y⟩,pst,(q0,q1,q2)⟩]:List HP).length nc) (by simp;omega)).trans G3;have B9:=(yq W ⟨w.heap.size,0,none⟩ J (.slice np (ls++[⟨⟨k,m,U,x,y⟩,pst,(q0,q1,q2)⟩]:List HP).length nc) (by simp;omega)).trans F9;have C6:Below w.heap.size w (W.setCell ⟨w.heap.size,0,none⟩ (.slice np (ls++[⟨⟨k,m,U,x,y⟩,pst,(q0,q1,q2)⟩]:List HP).length nc)):=G0.setCell (ye _) _;have D7:=zq g5 (a:=⟨w.heap.size,0,none⟩) (by simp;omega) (.slice np (ls++[⟨⟨k,m,U,x,y⟩,pst,(q0,q1,q2)⟩]:List HP).length nc);clear E7 F1 G3 F9 G0 H A5 G B0 M E5 hf hI g0 g1 g2 g3 g4 g5 g6 hn;revert A0 B3 C7 B9 C6 D7;generalize W.setCell ⟨w.heap.size,0,none⟩ (.slice np (ls++[⟨⟨k,m,U,x,y⟩,pst,(q0,q1,q2)⟩]:List HP).length nc)=W5;intro A0 B3 C7 B9 C6 D7;have C5:=yK D7;clear D7;revert C5 A0;generalize G2:(ls++[⟨⟨k,m,U,x,y⟩,pst,(q0,q1,q2)⟩]:List HP).length=n5;have I4:=yK G2;clear G2;intro A0 C5;have a1:W5.cell? ⟨w.heap.size,1,none⟩=some (.int .u64 N):=by simp[World.cell?,A0]
  have af:W5.frozen? ⟨w.heap.size,1,none⟩=false:=frozen_of_row W5 _ 1 _ _ A0;have p5:W5.cell? ⟨w.heap.size+1,5,none⟩=some (.int .u64 pst):=by simp[World.cell?,B3]
  have o1:=or64 hs1 hp1;go_wp2_with fail;have Y:(W5.setCell ⟨w.heap.size,1,none⟩ (.int .u64 (N ||| pst:Nat))).heap[w.heap.size]?=some (.cells #[.slice np n5 nc,.int .u64 (N ||| pst:Nat),.int .u64 F,.int .u64 D,.int .u64 C,.int .u64 O,.int .u64 S,.int .u64 R,.int .i64 (B 0),.int .i64 (B 1),.int .i64 (B 2),.int .i64 (B 3),.int .i64 (B 4),.int .i64 (B 5),.int .i64 (B 6),.int .i64 (B 7)] 108 (0,0)):=yI _ _ _ _ _ _ A0;have A1:=(yq W5 ⟨w.heap.size,1,none⟩ (w.heap.size+1) (.int .u64 (N ||| pst:Nat)) (by simp)).trans B3;have B8:=(yq W5 ⟨w.heap.size,1,none⟩ (w.heap.size+1+1) (.int .u64 (N ||| pst:Nat)) (by simp;omega)).trans C7;have A8:=(yq W5 ⟨w.heap.size,1,none⟩ J (.int .u64 (N ||| pst:Nat)) (by simp;omega)).trans B9;have D9:Below w.heap.size w (W5.setCell ⟨w.heap.size,1,none⟩ (.int .u64 (N ||| pst:Nat))):=C6.setCell (ye _) _;have G4:=zq C5.o (a:=⟨w.heap.size,1,none⟩) (by simp;omega) (.int .u64 (N ||| pst:Nat));have D1:=yK G4;clear G4;clear A0 B3 C7 B9 C6 C5 a1 af p5 o1;revert Y A1 B8 A8 D9 D1;generalize W5.setCell ⟨w.heap.size,1,none⟩ (.int .u64 (N ||| pst:Nat))=W6;intro Y A1 B8 A8 D9 D1;have a2:∀ d:SubW W6,d.1.cell? ⟨w.heap.size,2,none⟩=some (.int .u64 F):=λ d=>by simp[World.cell?,d.block Y]
  have a3:∀ d:SubW W6,d.1.cell? ⟨w.heap.size,3,none⟩=some (.int .u64 D):=λ d=>by simp[World.cell?,d.block Y]
  have a4:∀ d:SubW W6,d.1.cell? ⟨w.heap.size,4,none⟩=some (.int .u64 C):=λ d=>by simp[World.cell?,d.block Y]
  have a5:∀ d:SubW W6,d.1.cell? ⟨w.heap.size,5,none⟩=some (.int .u64 O):=λ d=>by simp[World.cell?,d.block Y]
  have a6:∀ d:SubW W6,d.1.cell? ⟨w.heap.size,6,none⟩=some (.int .u64 S):=λ d=>by simp[World.cell?,d.block Y]
  have a7:∀ d:SubW W6,d.1.cell? ⟨w.heap.size,7,none⟩=some (.int .u64 R):=λ d=>by simp[World.cell?,d.block Y]
  have p6:∀ d:SubW W6,d.1.cell? ⟨w.heap.size+1,6,none⟩=some (.int .u64 q0):=λ d=>by simp[World.cell?,d.block A1]
  have p7:∀ d:SubW W6,d.1.cell? ⟨w.heap.size+1,7,none⟩=some (.int .u64 q1):=λ d=>by simp[World.cell?,d.block A1]
  have p8:∀ d:SubW W6,d.1.cell? ⟨w.heap.size+1,8,none⟩=some (.int .u64 q2):=λ d=>by simp[World.cell?,d.block A1]
  have J0:∀ d:SubW W6,d.1.cell? ⟨J,0,none⟩=some (.int .u64 (F &&& q0:Nat)):=λ d=>by simp[World.cell?,d.block A8]
  have J1:∀ d:SubW W6,d.1.cell? ⟨J,1,none⟩=some (.int .u64 (D &&& q1:Nat)):=λ d=>by simp[World.cell?,d.block A8]
  have J2:∀ d:SubW W6,d.1.cell? ⟨J,2,none⟩=some (.int .u64 (C &&& q2:Nat)):=λ d=>by simp[World.cell?,d.block A8]
  have E9:Hid (∀ d:SubW W6,Calls Tryz.prog 110 #[.agg #[.int .u64 F,.int .u64 D,.int .u64 C],.agg #[.int .u64 q0,.int .u64 q1,.int .u64 q2]] d.1
   λ e w'=>e=.returned (.agg #[.int .u64 (F ||| q0:Nat),.int .u64 (D ||| q1:Nat),.int .u64 (C ||| q2:Nat)])/\∃ d':SubW W6,w'=d'.1):=yK λ d=>or_q (F,D,C) (q0,q1,q2) H2.o D8.o d
  have F0:Hid (∀ d:SubW W6,Calls Tryz.prog 110 #[.agg #[.int .u64 O,.int .u64 S,.int .u64 R],.agg #[.int .u64 (F &&& q0:Nat),.int .u64 (D &&& q1:Nat),.int .u64 (C &&& q2:Nat)]] d.1
   λ e w'=>e=.returned (.agg #[.int .u64 (O ||| (F &&& q0):Nat),.int .u64 (S ||| (D &&& q1):Nat),.int .u64 (R ||| (C &&& q2):Nat)])/\∃ d':SubW W6,w'=d'.1):=yK λ d=>or_q (O,S,R) (andW (F,D,C) (q0,q1,q2)) H3.o (gM D8.o) d
  refine zg 10 (by kernel_rfl) (by kernel_rfl) ?_;simp only[yh,yj,yi,yl]
  repeat(go_big_quiet_step (fail))
  go_big_quiet_step (exact E9.o _)
  repeat(go_big_quiet_step (fail))
  go_big_quiet_step (exact F0.o _)
  repeat(go_big_quiet_step (fail))
  refine wpQuiet_nil ?_;intro A4;have V:=A4.block Y;have C2:=A4.block A1;have D5:=A4.block B8;have C8:=D9.tm A4.2;have F4:=qf D1.o A4.2;have B6:=yK F4;clear F4;revert V C2 D5 C8 B6;generalize A4.1=W7;intro V C2 D5 C8 B6;clear A8 Y A1 B8 D9 D1 a2 a3 a4 a5 a6 a7 p6 p7 p8 J0 J1 J2;have af:∀ j,W7.frozen? ⟨w.heap.size,j,none⟩=false:=λ j=>frozen_of_row W7 _ j _ _ V;have a2:W7.cell? ⟨w.heap.size,2,none⟩=some (.int .u64 F):=by simp[World.cell?,V]
  have a3:W7.cell? ⟨w.heap.size,3,none⟩=some (.int .u64 D):=by simp[World.cell?,V]
  have a4:W7.cell? ⟨w.heap.size,4,none⟩=some (.int .u64 C):=by simp[World.cell?,V]
  have a5:W7.cell? ⟨w.heap.size,5,none⟩=some (.int .u64 O):=by simp[World.cell?,V]
  have a6:W7.cell? ⟨w.heap.size,6,none⟩=some (.int .u64 S):=by simp[World.cell?,V]
  have a7:W7.cell? ⟨w.heap.size,7,none⟩=some (.int .u64 R):=by simp[World.cell?,V]
  go_upto_region 7 with fail;have A6:((((((W7.setCell ⟨w.heap.size,2,none⟩ (.int .u64 (F ||| q0:Nat))).setCell ⟨w.heap.size,3,none⟩ (.int .u64 (D ||| q1:Nat))).setCell ⟨w.heap.size,4,none⟩ (.int .u64 (C ||| q2:Nat))).setCell ⟨w.heap.size,5,none⟩ (.int .u64 (O ||| (F &&& q0):Nat))).setCell ⟨w.heap.size,6,none⟩ (.int .u64 (S ||| (D &&& q1):Nat))).setCell ⟨w.heap.size,7,none⟩ (.int .u64 (R ||| (C &&& q2):Nat))).heap[w.heap.size]?=some (.cells #[.slice np n5 nc,.int .u64 (N ||| pst:Nat),.int .u64 (F ||| q0:Nat),.int .u64 (D ||| q1:Nat),.int .u64 (C ||| q2:Nat),.int .u64 (O ||| (F &&& q0):Nat),.int .u64 (S ||| (D &&& q1):Nat),.int .u64 (R ||| (C &&& q2):Nat),.int .i64 (B 0),.int .i64 (B 1),.int .i64 (B 2),.int .i64 (B 3),.int .i64 (B 4),.int .i64 (B 5),.int .i64 (B 6),.int .i64 (B 7)] 108 (0,0)):=uP V (.int .u64 (F ||| q0:Nat)) (.int .u64 (D ||| q1:Nat)) (.int .u64 (C ||| q2:Nat)) (.int .u64 (O ||| (F &&& q0):Nat)) (.int .u64 (S ||| (D &&& q1):Nat)) (.int .u64 (R ||| (C &&& q2):Nat));have C1:=(six_other W7 (A:=w.heap.size) (k:=w.heap.size+1) (by omega) (.int .u64 (F ||| q0:Nat)) (.int .u64 (D ||| q1:Nat)) (.int .u64 (C ||| q2:Nat)) (.int .u64 (O ||| (F &&& q0):Nat)) (.int .u64 (S ||| (D &&& q1):Nat)) (.int .u64 (R ||| (C &&& q2):Nat))).trans C2;have C9:=(six_other W7 (A:=w.heap.size) (k:=w.heap.size+1+1) (by omega) (.int .u64 (F ||| q0:Nat)) (.int .u64 (D ||| q1:Nat)) (.int .u64 (C ||| q2:Nat)) (.int .u64 (O ||| (F &&& q0):Nat)) (.int .u64 (S ||| (D &&& q1):Nat)) (.int .u64 (R ||| (C &&& q2):Nat))).trans D5;have D6:=uR C8 (ye _) (.int .u64 (F ||| q0:Nat)) (.int .u64 (D ||| q1:Nat)) (.int .u64 (C ||| q2:Nat)) (.int .u64 (O ||| (F &&& q0):Nat)) (.int .u64 (S ||| (D &&& q1):Nat)) (.int .u64 (R ||| (C &&& q2):Nat));have F6:=tO B6.o (A:=w.heap.size) (by omega) (.int .u64 (F ||| q0:Nat)) (.int .u64 (D ||| q1:Nat)) (.int .u64 (C ||| q2:Nat)) (.int .u64 (O ||| (F &&& q0):Nat)) (.int .u64 (S ||| (D &&& q1):Nat)) (.int .u64 (R ||| (C &&& q2):Nat));have C4:=yK F6;clear F6;clear V C2 D5 C8 B6 a2 a3 a4 a5 a6 a7 af;revert A6 C1 C9 D6 C4;generalize ((((((W7.setCell ⟨w.heap.size,2,none⟩ (.int .u64 (F ||| q0:Nat))).setCell ⟨w.heap.size,3,none⟩ (.int .u64 (D ||| q1:Nat))).setCell ⟨w.heap.size,4,none⟩ (.int .u64 (C ||| q2:Nat))).setCell ⟨w.heap.size,5,none⟩ (.int .u64 (O ||| (F &&& q0):Nat))).setCell ⟨w.heap.size,6,none⟩ (.int .u64 (S ||| (D &&& q1):Nat))).setCell ⟨w.heap.size,7,none⟩ (.int .u64 (R ||| (C &&& q2):Nat)))=W8;intro A6 C1 C9 D6 C4;have af:∀ j,W8.frozen? ⟨w.heap.size,j,none⟩=false:=λ j=>frozen_of_row W8 _ j _ _ A6;have ak:W8.cell? ⟨w.heap.size,8+k,none⟩=some (.int .i64 (B k)):=by
   rcases (by omega:k=0\/k=1\/k=2\/k=3\/k=4\/k=5\/k=6\/k=7)with rfl|rfl|rfl|rfl|rfl|rfl|rfl|rfl <;> simp[World.cell?,A6]
  have p0:W8.cell? ⟨w.heap.size+1,0,none⟩=some (.int .i64 k):=by simp[World.cell?,C1]
  have G9:=H4.o k;go_upto_region 8 with fail;have B1:∃ Z:List Value,Z=hsVals ⟨np,n5,nc,N ||| pst,(F ||| q0,D ||| q1,C ||| q2),(O ||| (F &&& q0),S ||| (D &&& q1),R ||| (C &&& q2)),λ j=>if j=k then B k+1 else B j⟩/\(W8.setCell ⟨w.heap.size,8+k,none⟩ (.int .i64 ((B k:Int)+1))).heap[w.heap.size]?=some (.cells Z.toArray 108 (0,0)):=by
   refine⟨_,rfl,?_⟩;rw[yI _ _ _ _ _ _ A6];rcases (by omega:k=0\/k=1\/k=2\/k=3\/k=4\/k=5\/k=6\/k=7)with rfl|rfl|rfl|rfl|rfl|rfl|rfl|rfl <;> simp[hsVals]
  obtain⟨Z,D3,B1⟩:=B1;have hz:Z.length=16:=by rw[D3];rfl
  have F5:Z.toArray.all (·.oneCell')=true:=by rw[D3];simp[hsVals,Value.oneCell']
  have C3:=(yq W8 ⟨w.heap.size,8+k,none⟩ (w.heap.size+1+1) (.int .i64 ((B k:Int)+1)) (by simp;omega)).trans C9;have E2:=D6.setCell (p:=⟨w.heap.size,8+k,none⟩) (ye _) (.int .i64 ((B k:Int)+1));have G6:=zq C4.o (a:=⟨w.heap.size,8+k,none⟩) (by simp;omega) (.int .i64 ((B k:Int)+1));have E8:=yK G6;clear G6;have I3:=yK D3;clear D3;have F7:=yK hz;clear hz;clear A6 C9 C1 D6 C4 af ak p0 G9;revert B1 C3 E2 E8;generalize W8.setCell ⟨w.heap.size,8+k,none⟩ (.int .i64 ((B k:Int)+1))=W9;intro B1 C3 E2 E8;have E4:(Tryz.prog.info? 108).map (·.size)=some Z.toArray.size:=by rw[YK,F7.o];exact sizeS
  go_wp2_with (first
   | (refine Ya rfl 108 _ rfl w.heap.size rfl 108 Z.toArray (0,0) _ B1 underlying108 rfl E4 ?_)
   | (refine wpList_store_row rfl 108 _ _ rfl (w.heap.size+1+1) rfl 108 _ Z.toArray rfl C3 E4 (by show 16=Z.toArray.size;rw[YK,F7.o]) F5 ?_))
  refine Yb (zI rfl underlying108 rfl _ _ (w.heap.size+1+1) Z.toArray (0,0) (.bool true) (setRow_heap _ _ _ _ _ _ C3) E4 rfl rfl) rfl ?_;rw[<- B7.o];have hW:RP.Own W9 W3.heap.size (.slice np n5 nc) (ls++[⟨⟨k,m,U,x,y⟩,pst,(q0,q1,q2)⟩]):=by
   show W9.ownsRow _ RP.ty RP.n _ (ls++[(⟨⟨k,m,U,x,y⟩,pst,(q0,q1,q2)⟩:HP)]).length _;rw[I4.o];exact E8.o
  refine⟨⟨np,n5,nc,N ||| pst,(F ||| q0,D ||| q1,C ||| q2),(O ||| (F &&& q0),S ||| (D &&& q1),R ||| (C &&& q2)),λ j=>if j=k then B k+1 else B j⟩,true,?_,⟨λ _=>⟨H6.o,by simpa using I1.o,?_⟩,λ _=>rfl⟩,λ h=>(by cases h),λ _=>⟨rfl,rfl,rfl,rfl,?_⟩,zi E2 (by omega) _⟩
  ·rw[I3.o];rfl
  ·show andW (andW (F,D,C) (q0,q1,q2)) bel=(0,0,0);rw[HZ.o];exact H9.o
  refine qP (zk hW λ kk e=>setRow_other _ _ _ _ ?_) (by omega);have:=(qg hW e).1;omega
theorem infoSt:(Tryz.prog.info? 108).map (λ i=>(i.zero,i.size,i.bytes))=some (some (.agg #[.slice none 0 0,.int .u64 0,.int .u64 0,.int .u64 0,.int .u64 0,.int .u64 0,.int .u64 0,.int .u64 0,.int .i64 0,.int .i64 0,.int .i64 0,.int .i64 0,.int .i64 0,.int .i64 0,.int .i64 0,.int .i64 0]),16,144):=by kernel_rfl
theorem zQ {α:Type} {l:List α} {x y:α} {i:Nat} (h:(l++[x])[i]?=some y):l[i]?=some y\/(i=l.length/\y=x):=by
 by_cases hi:i<l.length
 ·rw[yX hi]at h;exact .inl h
 rw[yW (by omega)]at h;obtain⟨B,A⟩:=yc.1 h;simp at B;exact .inr ⟨by omega,by simpa using A.symm⟩
theorem Cn {g:List Q} {L:List E} (hg64:g.length<=64) {lb base:Nat} {F:Nat->Prop} {Ts:List (List Pc)} {S:HS} {T:List Pc} {W:World} (hj:TJ W g L lb base F Ts) (hst:StT g L T S)
  (hs:RP.Own W base S.laid (T.map (hpT g L))) (hnF:∀ k,S.laid.ownBlock=some k->¬ F k) (hT:TbAt W) (hTg:1<base) (ha:ApartT T) (hin:∀ p∈T,∃ q∈g,q∈p.qs) (hne:T≠[]) (hTl:T.length<=64)
  (hlen:Ts.length<=1000000000) (hbase:base<=W.heap.size) :
  Calls Tryz.prog 90 #[RS.val S,.pointer (some ⟨lb,0,none⟩)] W λ e W'=>(∃ v,e=.returned v)/\∃ F':Nat->Prop,TJ W' g L lb base F' (Ts++[T]) /\
   (∀ k,F' k->F k\/S.laid.ownBlock=some k\/W.heap.size<=k)/\Fr (λ k=>F k\/S.laid.ownBlock=some k) W W':=by
 obtain⟨v,A,h1,t,h3,h4,h5,h6,h7,h8⟩:=hj;obtain⟨J,I,rfl⟩:∃ J I,v=.slice J A.length I:=(REnc.Own.has (R:=RS) t).slice;have E1:=h8 lb h5;have hW:=yK (rfl:W.heap.size=W.heap.size);have C0:RP.Own (W.alloc (.cells (hsVals S).toArray 108)) base S.laid (T.map (hpT g L)):=qf hs ((yf _ W).alloc (ye _) _);have V:TbAt (W.alloc (.cells (hsVals S).toArray 108)):=hT.below ((yf _ W).alloc (ye _) _);have A8:=yd W (.cells (hsVals S).toArray 108);obtain⟨l,c⟩:=tf (L:=L) hg64 ha hin;have hC:=sH base S.laid (T.map (hpT g L)) ((sortP g T).map (hpT g L)) _ V hTg C0 (by simpa using hne) (by rw[yB];omega) (λ p hp=>by
  obtain⟨r,_,rfl⟩:=yP.1 hp;exact yO (cy _ g) (Nat.pow_le_pow_right (by decide) hg64)) l c
 have Z:∀ k,S.laid.ownBlock=some k->k<W.heap.size:=λ k N=>(qg hs N).2.1;have D2:=yK hst;clear hst;have z:=yK hnF;clear hnF;have H2:=yK t;clear t;have H3:=yK h3;clear h3;have H4:=yK h4;clear h4;have H6:=yK h6;clear h6;have H7:=yK h7;clear h7;have H8:=yK h8;clear h8;have B2:=yK Z;clear Z;clear hs l c hne hTl ha hin hT V C0;have c0:(W.alloc (.cells (hsVals S).toArray 108)).cell? ⟨W.heap.size,0,none⟩=some (.slice S.lp S.ln S.lc):=by simp only[World.cell?,A8];rfl
 show Calls _ _ #[.agg (hsVals S).toArray,_] _ _;have HC:=yK hC;clear hC;go_enter func90,ntmps90;go_wp2_with fail;refine HC.o.mono ?_;rintro e w2 ⟨rfl,C2,B7,A3,A2,j,B0⟩;clear HC c0;have Y:Bw W (W.alloc (.cells (hsVals S).toArray 108)):=(yf _ W).alloc (ye _) _;have C7:(W.alloc (.cells (hsVals S).toArray 108)).heap.size=W.heap.size+1:=yp _ _;have y:∀ k,k<W.heap.size->S.laid.ownBlock≠some k->w2.heap[k]?=W.heap[k]?:=λ k N hne=>(B0 k (by omega) hne).trans (Y.block k N);have C1:w2.heap[W.heap.size]?=some (.cells (hsVals S).toArray 108 (0,0)):=(B0 _ (by omega) λ e=>by have:=B2.o _ e;omega).trans A8;have G:w2.heap[lb]?=some (.cells #[.slice J A.length I] 96 (0,0)):=(y lb (ya.1 h1).1 λ e=>z.o _ e h5).trans h1;have M:RS.Own w2 base (.slice J A.length I) A:=zk H2.o λ k e=>y k (qg H2.o e).2.1 λ e'=>z.o _ e' (H6.o k e);have hz:W.heap.size+1<=w2.heap.size:=by omega
 have B8:w2.os=W.os:=A3.trans Y.os;have B6:w2.tape=W.tape:=A2.trans Y.tape;have A1:w2.output=W.output:=j.trans Y.output;clear A8 B0 C7 B7 A3 A2 j;obtain⟨k0,k1,k2,k3,k4,k5,k6,k7,k8,k9,E2,E5,E6,E3,E4,E0⟩:=bq C1;have a0:w2.cell? ⟨lb,0,none⟩=some (.slice J A.length I):=by simp[World.cell?,G]
 have B1:=yK C2;clear C2;have B3:=yK y;clear y;have f:=yK (YP B8 (YP B6 (YP A1 hz)));clear B8 B6 A1 hz;clear C1 Y;obtain⟨iS,D4,C8,C6,C5⟩:=info_parts infoSt;have D3:Hid (A.length+1<=maxLen):=yK (by simp only[maxLen];have:=H3.o;omega);have D1:Hid ((A.length+1)*144<=140737488355328):=yK (by have:=H3.o;omega);have D9:base<=w2.heap.size:=by have:=f.o.2.2.2;omega
 have s:=qf M ((yf _ w2).alloc (ye _) (.cells (hsVals S).toArray 108));have m:=heapO (.cells (hsVals S).toArray 108) G;have O:=zD (yd w2 (.cells (hsVals S).toArray 108));have hne:∀ k,(Value.slice J A.length I).ownBlock=some k->k≠lb:=λ k e e'=>by
  obtain⟨_,_,C,D⟩:=qg M e;rw[e',G]at D;simp only[yo,Yg]at D;exact kV D.2.1 (by decide)
 have A4:∀ (w1:World),(w2.alloc (.cells (hsVals S).toArray 108)).grownBy w1 (Value.slice J A.length I).ownBlock->w1.heap[lb]?=some (.cells #[.slice J A.length I] 96 (0,0)):=λ w1 hg =>
  (hg.block lb (ya.1 m).1 λ e=>hne lb e.symm rfl).trans m
 have C9:=yK A4;clear A4;have B9:=yK hne;clear hne;have A5:=yK s;clear s;have C3:=yK O;clear O;have B5:=yK G;clear G M m h1;go_wp2_with (first
  | (at_builtin;refine wpList_append_own_at (P:=Tryz.prog) _ rfl _ _ 96 rfl base 108 iS _ 16 144 underlying96 D4 C8 C6 C5 rfl (by decide) (.slice J A.length I) A.length (RS.cells A) rfl A5.o ⟨w2.heap.size,0,none⟩ 1 1 (hsVals S) rfl rfl C3.o (RS.one S) D3.o D1.o (by rw[yp];omega) ?_;intro v' w1 hown' hgrow _ hat;obtain⟨U,X,rfl⟩:=zf hown';have x:Boxed w1 lb 96 (.slice J A.length I):=C9.o _ hgrow;have c1:=x.cell;have f1:=x.frozen))
 have B:(w2.alloc (.cells (hsVals S).toArray 108)).grownBy w1 (Value.slice J A.length I).ownBlock:=hgrow;have A6:(Value.slice U (A.length+1) X).ownBlock=(Value.slice J A.length I).ownBlock\/(Value.slice U (A.length+1) X).ownBlock=some (w2.heap.size+1):=by
  rcases hat with h|h
  ·exact .inl h
  exact .inr (h.trans (by rw[yp]))
 have B4:RS.Own w1 base (.slice U (A.length+1) X) (A++[S]):=RS.own_snoc hown';clear hgrow hat hown' c1 f1;have D7:=(ya.1 B5.o).1;have B7:=f.o.2.2.2;have D5:(w2.alloc (.cells (hsVals S).toArray 108)).heap.size=w2.heap.size+1:=yp _ _;have H:Bw w2 (w2.alloc (.cells (hsVals S).toArray 108)):=(yf _ w2).alloc (ye _) _;have K:∀ k,k<w2.heap.size->k≠lb->(Value.slice J A.length I).ownBlock≠some k->(w1.setCell ⟨lb,0,none⟩ (.slice U (A.length+1) X)).heap[k]?=w2.heap[k]?:=λ k N hne hv =>
  (yq _ _ _ _ hne).trans ((B.block k (by omega) λ e=>hv e.symm).trans (H.block k N))
 have D0:∀ k,(Value.slice J A.length I).ownBlock=some k->∃ C,(w2.alloc (.cells (hsVals S).toArray 108)).heap[k]?=some (.cells C 108 (0,0)):=λ k e=>(qg A5.o e).2.2;have A9:∀ (k:Nat) (cs:Array Value),w2.heap[k]?=some (.cells cs 152 (0,0))->(w1.setCell ⟨lb,0,none⟩ (.slice U (A.length+1) X)).heap[k]?=w2.heap[k]?:=λ k cs D=>by
  have N:=(ya.1 D).1;refine K k N (λ e=>?_) (λ e=>?_)
  ·subst e;rw[B5.o]at D;simp only[yo,Yg]at D;exact kV D.2.1 (by decide)
  obtain⟨C,d⟩:=D0 k e;rw[H.block k N,D]at d;simp only[yo,Yg]at d;exact kV d.2.1 (by decide)
 have n:RS.Own (w1.setCell ⟨lb,0,none⟩ (.slice U (A.length+1) X)) base (.slice U (A.length+1) X) (A++[S]):=zk B4 λ k e=>yq _ _ _ _ (by
  rcases A6 with h|h
  ·exact B9.o k (h▸e)
  rw[h]at e;cases e;exact λ e=>by simp only at e;omega)
 go_end0
 refine⟨⟨_,rfl⟩,λ k=>(F k/\(Value.slice J A.length I).ownBlock≠some k)\/S.laid.ownBlock=some k\/(Value.slice U (A.length+1) X).ownBlock=some k,
  ⟨.slice U (A.length+1) X,A++[S],x.set _,n,by rw[yL,yL,H3.o];rfl,?_,.inl ⟨h5,λ e=>B9.o _ e rfl⟩,λ k e=>.inr (.inr e),?_,?_⟩,?_,?_⟩
 ·intro i S' T' hS' A0;rcases zQ hS' with hS1|⟨hi,rfl⟩
  ·rcases zQ A0 with V|⟨hi,rfl⟩
   ·obtain⟨a,b⟩:=H4.o i S' T' hS1 V;refine⟨a,zk b λ k e=>?_⟩;obtain⟨_,N,C,D⟩:=qg b e;have C4:=H7.o S' (yg hS1) k e;have t:=B3.o k N λ e'=>z.o _ e' C4;exact(A9 k C (t.trans D)).trans t
   have:=(yc.1 hS1).1;have:=H3.o;omega
  rcases zQ A0 with V|⟨_,rfl⟩
  ·have:=(yc.1 V).1;have:=H3.o;omega
  refine⟨D2.o,zk B1.o λ k e=>?_⟩;obtain⟨_,_,C,D⟩:=qg B1.o e;exact A9 k C D
 ·intro S' hS' k e;rcases yY.1 hS' with h|h
  ·refine .inl ⟨H7.o S' h k e,λ e'=>?_⟩;obtain⟨i,hi⟩:=yV h;obtain⟨T',A0⟩:∃ T',Ts[i]?=some T':=⟨_,yb (by rw[<- H3.o];exact(yc.1 hi).1)⟩;obtain⟨_,_,C,D⟩:=qg (H4.o i S' T' hi A0).2 e;obtain⟨_,_,D6,A7⟩:=qg H2.o e';rw[D]at A7;simp only[yo,Yg]at A7;exact kV A7.2.1 (by decide)
  rw[yU]at h;subst h;exact .inr (.inl e)
 ·rintro k (⟨hF,hv⟩|e|e)
  ·obtain⟨hb,cs,T',D⟩:=H8.o k hF;by_cases hkl:k=lb
   ·subst hkl;exact⟨hb,_,_,x.set _⟩
   have N:=(ya.1 D).1;have t:=B3.o k N λ e'=>z.o _ e' hF;exact⟨hb,cs,T',(K k (by omega) hkl hv).trans (t.trans D)⟩
  ·obtain⟨hb,_,C,D⟩:=qg B1.o e;exact⟨hb,_,_,(A9 k C D).trans D⟩
  obtain⟨hb,_,C,D⟩:=qg n e;exact⟨hb,_,_,D⟩
 ·rintro k (⟨hF,_⟩|e|e)
  ·exact .inl hF
  ·exact .inr (.inl e)
  rcases A6 with h|h
  ·exact .inl (H6.o k (h▸e))
  rw[h]at e;cases e;exact .inr (.inr (by omega))
 ·have D8:(w1.setCell ⟨lb,0,none⟩ (.slice U (A.length+1) X)).heap.size=w1.heap.size:=by simp
  refine⟨?_,?_,?_,?_,?_⟩
  ·have:=(Below.setCell (yf lb w1) (ye _) (Value.slice U (A.length+1) X) (p:=⟨lb,0,none⟩)).os;exact this.trans (B.os.trans (H.os.trans f.o.1))
  ·have:=(Below.setCell (yf lb w1) (ye _) (Value.slice U (A.length+1) X) (p:=⟨lb,0,none⟩)).tape;exact this.trans (B.tape.trans (H.tape.trans f.o.2.1))
  ·have:=(Below.setCell (yf lb w1) (ye _) (Value.slice U (A.length+1) X) (p:=⟨lb,0,none⟩)).output;exact this.trans (B.output.trans (H.output.trans f.o.2.2.1))
  ·have:=B.size;omega
  intro k N hn;have t:=B3.o k N λ e=>hn (.inr e);exact(K k (by omega) (λ e=>hn (.inl (e▸h5))) λ e=>hn (.inl (H6.o k e))).trans t
