/- Plain: what the walk through the search needs: how many nodes at most, and that children have fewer free quarters. -/
import Derived.Test.YtiinlplgloaanaaGreatDoorZzLayerTouches32
import Derived.Great.BuildSlice
set_option linter.all false
set_option maxRecDepth 100000
set_option maxHeartbeats 1000000
namespace Go.Proofs.YtiinlplgloaanaaGreatDoor
open Go.Proofs.Tryz Go.RowKit
theorem ue {g:List Q} (hn:g.Nodup):wayT g 0=some (List.range g.length):=by
 unfold wayT;have e:(g.map (tr (decide (4<=0)) (0 % 4)))=g:=by
  have:tr (decide (4<=0)) (0 % 4)=id:=by funext q;rfl
  rw[this,Kc]
 rw[e];have D:∀ q:Q,sh (leftL g-leftL g) (lowL g-lowL g) q=q:=λ q=>by
  rw[Int.sub_self,Int.sub_self];exact bD q
 have:∀ l:List Q,∀ k:Nat,(∀ i q,l[i]?=some q->g[k+i]?=some q)->l.mapM (λ q=>g.findIdx? λ r=>decide (r=sh (leftL g-leftL g) (lowL g-lowL g) q))=some (List.range' k l.length):=by
  intro l
  induction l with
  | nil=>intro k _;rfl
  | cons q l ih =>
   intro k h;have B:=h 0 q rfl;rw[Nat.add_zero]at B;obtain⟨F,A⟩:=yc.1 B;have C:(g.findIdx? λ r=>decide (r=sh (leftL g-leftL g) (lowL g-lowL g) q))=some k:=by
    rw[D,List.findIdx?_eq_some_iff_getElem];refine⟨F,by simpa using A,λ j hj=>?_⟩;simp only[yS];intro e;have:=(List.getElem_inj hn).1 (e.trans A.symm);omega
   rw[List.mapM_cons,C,ih (k+1) (λ i r hr=>by have:=h (i+1) r (by simpa using hr);rwa [show k+1+i=k+(i+1)by omega])];rfl
 have h:=this g 0 (λ i q h=>by simpa using h);rw[h,List.range_eq_range']
theorem jL {g:List Q} (hn:g.Nodup):(waysT g).headD []=List.range g.length/\List.range g.length∈waysT g/\(waysT g).length<=8:=by
 unfold waysT;have e:List.range 8=0 :: [1,2,3,4,5,6,7]:=by decide
 rw[e,kS,ue hn];refine⟨rfl,by simp,?_⟩;simp only[yA];have:=List.length_filterMap_le (wayT g) [1,2,3,4,5,6,7];simp only[yA,yN]at this;omega
theorem zF (n a b:Int) (w:World) :
  Calls Tryz.prog 43 #[.int .i64 n,.int .i64 a,.int .i64 b] w λ e w'=>e=.returned (.bool (decide (a<=n/\n<=b)))/\w=w':=by
 go_enter func43,ntmps43;by_cases h1:a<=n
 case neg =>
  have hd:decide (a<=n)=false:=by simp[h1]
  go_wp2;go_ret;exact⟨qL (by simp[h1]),rfl⟩
 have hd:decide (a<=n)=true:=by simp[h1]
 by_cases h2:n<=b
 ·have A:decide (n<=b)=true:=by simp[h2]
  go_wp2;go_ret;exact⟨qL (by simp[h1,h2]),rfl⟩
 ·have A:decide (n<=b)=false:=by simp[h2]
  go_wp2;go_ret;exact⟨qL (by simp[h1,h2]),rfl⟩
theorem bB {a b:Nat} (ha:a<2 ^ 64) (hb:b<2 ^ 64):bits .and .u64 (a:Int) (b:Int)=((a &&& b:Nat):Int):=bits_and_u64_nat a b (by omega) (by omega)
theorem or64 {a b:Nat} (ha:a<2 ^ 64) (hb:b<2 ^ 64):bits .or .u64 (a:Int) (b:Int)=((a ||| b:Nat):Int):=bits_or_u64_nat a b (by omega) (by omega)
theorem gM {x y:W3} (hy:okW y):okW (andW x y):=⟨Nat.and_lt_two_pow _ hy.1,Nat.and_lt_two_pow _ hy.2.1,Nat.and_lt_two_pow _ hy.2.2⟩
theorem bM {fn:Func} {p:Tmp} {T:TypeId} (h:fn.results=#[.cell p T]) {d:TypeDesc} (hu:Tryz.prog.underlying T=some d) (hd:d.isRow=true) (tmps:Array Value) (w:World) (b:Nat) (cs:Array Value) (fr:Nat × Nat)
  (hg:w.heap[b]?=some (.cells cs T fr)) (hi:(Tryz.prog.info? T).map (·.size)=some cs.size) (hp:tmps.getD p undef=.pointer (some ⟨b,0,none⟩)):(results fn tmps).run Tryz.prog w=.ok (.agg cs) w:=by
 have A:tmps[p]?.getD undef=.pointer (some ⟨b,0,none⟩):=by simpa using hp
 have B:=run_loadVar_row (P:=Tryz.prog) w b T T cs fr d hg hu (by cases d <;> simp_all) hi
 simp[results,h,A,asAddr,B]
theorem zI {fn:Func} {p q:Tmp} {T:TypeId} (h:fn.results=#[.cell p T,.tmp q]) {d:TypeDesc} (hu:Tryz.prog.underlying T=some d) (hd:d.isRow=true) (tmps:Array Value) (w:World) (b:Nat) (cs:Array Value) (fr:Nat × Nat) (z:Value)
  (hg:w.heap[b]?=some (.cells cs T fr)) (hi:(Tryz.prog.info? T).map (·.size)=some cs.size) (hp:tmps.getD p undef=.pointer (some ⟨b,0,none⟩)) (hq:tmps.getD q undef=z):(results fn tmps).run Tryz.prog w=.ok (.tuple #[.agg cs,z]) w:=by
 have A:tmps[p]?.getD undef=.pointer (some ⟨b,0,none⟩):=by simpa using hp
 have B:tmps[q]?.getD undef=z:=by simpa using hq
 have C:=run_loadVar_row (P:=Tryz.prog) w b T T cs fr d hg hu (by cases d <;> simp_all) hi
 simp[results,h,A,B,asAddr,C]
theorem aZ:(Tryz.prog.info? 105).map (·.size)=some 3:=by kernel_rfl
theorem bL (w:World) (o1 o2:Obj):((w.alloc o1).alloc o2).heap[w.heap.size+1]?=some o2:=by
 have:=yd (w.alloc o1) o2;rwa [yp]at this
theorem db (w:World) (o1 o2 o3:Obj):(((w.alloc o1).alloc o2).alloc o3).heap[w.heap.size+1+1]?=some o3:=by
 have:=yd ((w.alloc o1).alloc o2) o3;rwa [yp,yp]at this
theorem both_any (x y:W3) (hx:okW x) (hy:okW y) (w:World) :
  Calls Tryz.prog 75 #[w3V x,w3V y] w λ e w'=>e=.returned (w3V (andW x y))/\Grew w w':=by
 obtain⟨F,G,H⟩:=x;obtain⟨I,J,D⟩:=y;have B:=bB hx.1 hy.1;have C:=bB hx.2.1 hy.2.1;have A:=bB hx.2.2 hy.2.2;simp only at B C A;unfold w3V andW;clear hx hy;go_enter func75,ntmps75;go_wp2_with fail;refine Yb (bM rfl underlying105 rfl _ _ (w.heap.size+1+1) _ (0,0) (db _ _ _ _) aZ rfl) rfl ?_;exact⟨rfl,(((Grew.refl w).alloc _).alloc _).alloc _⟩
theorem mM (x y:W3) (hx:okW x) (hy:okW y) (w:World) :
  Calls Tryz.prog 110 #[w3V x,w3V y] w λ e w'=>e=.returned (w3V (orW x y))/\Grew w w':=by
 obtain⟨F,G,H⟩:=x;obtain⟨I,J,D⟩:=y;have B:=or64 hx.1 hy.1;have C:=or64 hx.2.1 hy.2.1;have A:=or64 hx.2.2 hy.2.2;simp only at B C A;unfold w3V orW;clear hx hy;go_enter func110,ntmps110;go_wp2_with fail;refine Yb (bM rfl underlying105 rfl _ _ (w.heap.size+1+1) _ (0,0) (db _ _ _ _) aZ rfl) rfl ?_;exact⟨rfl,(((Grew.refl w).alloc _).alloc _).alloc _⟩
def withW (x:W3) (n:Nat):W3:=if n<64 then(x.1 ||| (1 <<< n),x.2.1,x.2.2)else if n<128 then(x.1,x.2.1 ||| (1 <<< (n-64)),x.2.2)else(x.1,x.2.1,x.2.2 ||| (1 <<< (n-128)))
theorem ao {n:Nat} (h:n<64):1 <<< n<2 ^ 64:=by
 rw[Nat.one_shiftLeft];exact Nat.pow_lt_pow_right (by decide) h
theorem gN {n:Nat} (h:n<64):IntKind.u64.wrap (1*2 ^ n)=((1 <<< n:Nat):Int):=by
 rw[Nat.one_shiftLeft,Int.one_mul];have A:(2:Nat) ^ n<2 ^ 64:=Nat.pow_lt_pow_right (by decide) h;have e:(2:Int) ^ n=((2 ^ n:Nat):Int):=by norm_cast
 rw[e];exact wraps_u64 _ (Int.natCast_nonneg _) (by exact_mod_cast A)
theorem Cj {x:W3} (hx:okW x) {n:Nat} (h:n<192):okW (withW x n):=by
 unfold withW;split
 ·exact⟨Nat.or_lt_two_pow hx.1 (ao (by assumption)),hx.2⟩
 split
 ·exact⟨hx.1,Nat.or_lt_two_pow hx.2.1 (ao (by omega)),hx.2.2⟩
 exact⟨hx.1,hx.2.1,Nat.or_lt_two_pow hx.2.2 (ao (by omega))⟩
theorem ig (x:W3) (n:Nat) (hx:okW x) (hn:n<192) (w:World) :
  Calls Tryz.prog 106 #[w3V x,.int .i64 n] w λ e w'=>e=.returned (w3V (withW x n))/\Bw w w':=by
 obtain⟨A,B,C⟩:=x;unfold w3V;obtain⟨q,r,G,M,R,P,S,D⟩:∃ q r:Nat,r<64/\n / 64=q/\(n:Int) / 64=q/\(n:Int) % 64=r/\q<3 /\
   Hid ((q=0->withW (A,B,C) n=(A ||| (1 <<< r),B,C))/\(q=1->withW (A,B,C) n=(A,B ||| (1 <<< r),C))/\(q=2->withW (A,B,C) n=(A,B,C ||| (1 <<< r)))):=by
  refine⟨n / 64,n % 64,by omega,rfl,by omega,by omega,by omega,yK ?_⟩;unfold withW;refine⟨λ h=>?_,λ h=>?_,λ h=>?_⟩
  ·rw[Yz (by omega),show n % 64=n by omega]
  ·rw[Yy (by omega),Yz (by omega),show n % 64=n-64 by omega]
  ·rw[Yy (by omega),Yy (by omega),show n % 64=n-128 by omega]
 have K:=gN G;rw[Int.one_mul]at K;have H:=or64 hx.1 (ao G);have I:=or64 hx.2.1 (ao G);have J:=or64 hx.2.2 (ao G);simp only at H I J;revert D K H I J;generalize 1 <<< r=c;intro D K H I J;have N:(0:Int)<=r:=by omega
 have L:(r:Int)<=64:=by omega
 have O:IntKind.i64.wrap (r:Int)=r:=by rw[IntKind.wrap_i64];omega
 revert D;generalize withW (A,B,C) n=X;intro D;clear hx;rcases (by omega:q=0\/q=1\/q=2)with rfl|rfl|rfl
 ·go_enter func106,ntmps106;go_wp2_with fail;refine zu 9 (by kernel_rfl) (by kernel_rfl) ?_;simp only[yh,yj,yi,yl]
  repeat(go_big_quiet_step (fail))
  refine wpQuiet_nil ?_;intro nq;go_wp2_with fail;refine Yb (bM rfl underlying105 rfl _ _ (w.heap.size+1) _ (0,0) (yI _ _ _ _ _ _ (yI _ _ _ _ _ _ (yI _ _ _ _ _ _ ((yq _ _ _ _ (by simp)).trans (bL w _ _))))) aZ rfl) rfl ?_;refine⟨by rw[D.o.1 (by simp)];rfl,?_⟩;have F:Bw w ((w.alloc (.cells #[.int .u64 A,.int .u64 B,.int .u64 C] 105)).alloc (.cells #[.int .u64 0,.int .u64 0,.int .u64 0] 105)):=((yf _ w).alloc (ye _) _).alloc (by simp) _;exact((((F.trans (Joins.below_draws _ _ nq)).setCell (ye _) _).setCell (YE _) _).setCell (YE _) _).setCell (YE _) _
 ·go_enter func106,ntmps106;go_wp2_with fail;refine zu 9 (by kernel_rfl) (by kernel_rfl) ?_;simp only[yh,yj,yi,yl]
  repeat(go_big_quiet_step (fail))
  refine wpQuiet_nil ?_;intro nq;go_wp2_with fail;refine Yb (bM rfl underlying105 rfl _ _ (w.heap.size+1) _ (0,0) (yI _ _ _ _ _ _ (yI _ _ _ _ _ _ (yI _ _ _ _ _ _ ((yq _ _ _ _ (by simp)).trans (bL w _ _))))) aZ rfl) rfl ?_;refine⟨by rw[D.o.2.1 (by simp)];rfl,?_⟩;have F:Bw w ((w.alloc (.cells #[.int .u64 A,.int .u64 B,.int .u64 C] 105)).alloc (.cells #[.int .u64 0,.int .u64 0,.int .u64 0] 105)):=((yf _ w).alloc (ye _) _).alloc (by simp) _;exact((((F.trans (Joins.below_draws _ _ nq)).setCell (ye _) _).setCell (YE _) _).setCell (YE _) _).setCell (YE _) _
 ·go_enter func106,ntmps106;go_wp2_with fail;refine zu 9 (by kernel_rfl) (by kernel_rfl) ?_;simp only[yh,yj,yi,yl]
  repeat(go_big_quiet_step (fail))
  refine wpQuiet_nil ?_;intro nq;go_wp2_with fail;refine Yb (bM rfl underlying105 rfl _ _ (w.heap.size+1) _ (0,0) (yI _ _ _ _ _ _ (yI _ _ _ _ _ _ (yI _ _ _ _ _ _ ((yq _ _ _ _ (by simp)).trans (bL w _ _))))) aZ rfl) rfl ?_;refine⟨by rw[D.o.2.2 (by simp)];rfl,?_⟩;have F:Bw w ((w.alloc (.cells #[.int .u64 A,.int .u64 B,.int .u64 C] 105)).alloc (.cells #[.int .u64 0,.int .u64 0,.int .u64 0] 105)):=((yf _ w).alloc (ye _) _).alloc (by simp) _;exact((((F.trans (Joins.below_draws _ _ nq)).setCell (ye _) _).setCell (YE _) _).setCell (YE _) _).setCell (YE _) _
def SubW (w:World):Type:={ W:World // Bw w W }
instance (w:World):Nonempty (SubW w):=⟨⟨w,yf _ _⟩⟩
section
variable {P:Program}
theorem zg {id:Nat} {Q:Exit->Act->World->Prop} {a:Act} {w:World} {l:List Oper} (n:Nat) (hm:P.follows .mixedOrders=true) (hB:qtB l.toArray n=true)
  (h:wpQuiet P l.toArray (λ w'=>∃ d:SubW w,w'=d.1) (λ a'=>∀ d:SubW w,wpList P l.toArray Q (l.drop n) a' d.1) (l.take n) a):(Code.region id l.toArray true).wp P Q a w:=by
 refine iT n hm hB (λ w'=>∃ d:SubW w,w'=d.1) ⟨⟨w.drew,Joins.below_draws _ w 1⟩,rfl⟩ ?_;have e:(λ a'=>∀ d:SubW w,wpList P l.toArray Q (l.drop n) a' d.1)=(λ a'=>∀ w',(∃ d:SubW w,w'=d.1)->wpList P l.toArray Q (l.drop n) a' w'):=by
  funext a';apply propext
  exact⟨λ h w' ⟨n,e⟩=>e▸h n,λ h nq=>h _ ⟨nq,rfl⟩⟩
 rwa [e]at h
theorem bN {ro:Option Nat} {id:Nat} {Q:Exit->Act->World->Prop} {a:Act} {w:World} {l:List Oper} (n:Nat) (hm:P.follows .mixedOrders=true) (hB:qtB l.toArray n=true) (hD:noDefer l.toArray=true)
  (h:wpQuiet P l.toArray (λ w'=>∃ d:SubW w,w'=d.1) (λ a'=>∀ d:SubW w,wpListIn (FW ro) 0 P l.toArray Q (l.drop n) a' d.1) (l.take n) a):(Code.region id l.toArray true).wpIn (FW ro) 0 P Q a w:=by
 refine lk n hm hB hD (λ w'=>∃ d:SubW w,w'=d.1) ⟨⟨w.drew,Joins.below_draws _ w 1⟩,rfl⟩ ?_;have e:(λ a'=>∀ d:SubW w,wpListIn (FW ro) 0 P l.toArray Q (l.drop n) a' d.1)=(λ a'=>∀ w',(∃ d:SubW w,w'=d.1)->wpListIn (FW ro) 0 P l.toArray Q (l.drop n) a' w'):=by
  funext a';apply propext
  exact⟨λ h w' ⟨n,e⟩=>e▸h n,λ h nq=>h _ ⟨nq,rfl⟩⟩
 rwa [e]at h
end
theorem SubW.block {w:World} (d:SubW w) {b:Nat} {o:Obj} (h:w.heap[b]?=some o):d.1.heap[b]?=some o:=(d.2.block b (ya.1 h).1).trans h
structure HP where
 ld:Ld
 set:Nat
 bord:W3
def ldVals (l:Ld):List Value:=[.int .i64 l.kind,.bool l.m,.int .i64 l.t,.int .i64 l.x,.int .i64 l.y]
def hpVals (p:HP):List Value:=[.int .i64 p.ld.kind,.bool p.ld.m,.int .i64 p.ld.t,.int .i64 p.ld.x,.int .i64 p.ld.y,.int .u64 p.set,.int .u64 p.bord.1,.int .u64 p.bord.2.1,.int .u64 p.bord.2.2]
def RI:REnc Int:=⟨3,1,λ n=>[.int .i64 n],λ _=>rfl,λ n u h=>by simp at h;subst h;rfl⟩
def RL:REnc Ld:=⟨50,5,ldVals,λ _=>rfl,λ l u h=>by simp[ldVals]at h;rcases h with rfl|rfl|rfl|rfl|rfl <;> rfl⟩
def RP:REnc HP:=⟨152,9,hpVals,λ _=>rfl,λ l u h=>by simp[hpVals]at h;rcases h with rfl|rfl|rfl|rfl|rfl|rfl|rfl|rfl|rfl <;> rfl⟩
def RE:REnc E:=⟨61,3,eVals,λ _=>rfl,fE⟩
structure HS where
 lp:Option Addr
 ln:Nat
 lc:Nat
 set:Nat
 bord:W3
 joint:W3
 many:Nat->Nat
def HS.laid (s:HS):Value:=.slice s.lp s.ln s.lc
def hsVals (s:HS):List Value:=[.slice s.lp s.ln s.lc,.int .u64 s.set,.int .u64 s.bord.1,.int .u64 s.bord.2.1,.int .u64 s.bord.2.2,.int .u64 s.joint.1,.int .u64 s.joint.2.1,.int .u64 s.joint.2.2,
 .int .i64 (s.many 0),.int .i64 (s.many 1),.int .i64 (s.many 2),.int .i64 (s.many 3),.int .i64 (s.many 4),.int .i64 (s.many 5),.int .i64 (s.many 6),.int .i64 (s.many 7)]
def RS:REnc HS:=⟨108,16,hsVals,λ _=>rfl,λ l u h=>by simp[hsVals]at h;rcases h with rfl|rfl|rfl|rfl|rfl|rfl|rfl|rfl|rfl|rfl|rfl|rfl|rfl|rfl|rfl|rfl <;> rfl⟩
theorem sizeS:(Tryz.prog.info? 108).map (·.size)=some 16:=by kernel_rfl
theorem sizeP:(Tryz.prog.info? 152).map (·.size)=some 9:=by kernel_rfl
theorem sizeL:(Tryz.prog.info? 50).map (·.size)=some 5:=by kernel_rfl
structure PPAt (W:World) (a:Addr) (vs:List Value) (ps:List (List HP)):Prop where
 lt:ps≠[]->a.block<W.heap.size
 len:vs.length=ps.length
 at_:∀ (i:Nat) (l:List HP) (v:Value),ps[i]?=some l->vs[i]?=some v->W.cell? (a.add i)=some v/\RP.Has W v l
def HasPP (W:World) (v:Value) (vs:List Value) (ps:List (List HP)):Prop :=
 (v=.slice none 0 0/\ps=[])\/∃ (a:Addr) (cap:Nat),v=.slice (some a) ps.length cap/\ps.length<=cap/\cap<=maxLen/\PPAt W a vs ps
theorem HasPP.below {W W':World} {v:Value} {vs:List Value} {ps:List (List HP)} (h:HasPP W v vs ps) (e:Bw W W'):HasPP W' v vs ps:=by
 rcases h with h|⟨a,cap,h1,h2,h3,h4⟩
 ·exact .inl h
 refine .inr ⟨a,cap,h1,h2,h3,λ hp=>yO (h4.lt hp) e.size,h4.len,λ i l u hi hv=>?_⟩;obtain⟨A,B⟩:=h4.at_ i l u hi hv;refine⟨?_,B.below e⟩;rw[cell_of_block (W:=W) (W':=W') (by rw[block_add];exact e.block _ (h4.lt (by rintro rfl;simp at hi)))];exact A
theorem HasPP.slice {W:World} {v:Value} {vs:List Value} {ps:List (List HP)} (h:HasPP W v vs ps):∃ p c,v=.slice p ps.length c:=by
 rcases h with⟨rfl,rfl⟩|⟨a,c,rfl,_⟩
 ·exact⟨_,_,rfl⟩
 exact⟨_,_,rfl⟩
theorem HasPP.get {W:World} {p:Option Addr} {n c:Nat} {vs:List Value} {ps:List (List HP)} (h:HasPP W (.slice p n c) vs ps) {i:Nat} {l:List HP} (hi:ps[i]?=some l):∃ a v,p=some a/\n=ps.length/\vs[i]?=some v/\W.cell? (a.add i)=some v/\RP.Has W v l:=by
 rcases h with⟨_,h⟩|⟨a,cap,h1,_,_,h4⟩
 ·subst h;simp at hi
 simp only[yC]at h1;have C:=(yc.1 hi).1;have A:i<vs.length:=by rw[h4.len];exact C
 have B:vs[i]?=some vs[i]:=yb A;exact⟨a,_,h1.1,h1.2.1,B,h4.at_ i l _ hi B⟩
structure BV where
 g:Value
 k:Value
 c:Value
 f:Value
 b:Value
 qm:Nat
 em:Nat
 pv:Value
 pvs:List Value
def numQ (g:List Q):List (Q × Value):=g.zipIdx.map λ x=>(x.1,.int .i64 x.2)
def numE (L:List E):List (E × Value):=L.zipIdx.map λ x=>(x.1,.int .i64 x.2)
def flatV:Value->Prop
 | .slice (some a) _ _=>a.spot=none
 | _=>True
structure BdAt (W:World) (bb:Nat) (v:BV) (t:Tk) (L:List E) (ps:List (List HP)) (bel:W3):Prop where
 blk:W.heap[bb]?=some (.cells #[v.g,v.k,v.c,v.f,v.b,.map (some v.qm),.map (some v.em),v.pv,.int .u64 bel.1,.int .u64 bel.2.1,.int .u64 bel.2.2,.int .u64 (2 ^ t.ground.length-1:Nat)] 150 (0,0))
 ground:HasQ W v.g t.ground
 kinds:HasQQ W v.k t.kinds
 counts:RI.Has W v.c t.counts
 fixed:RL.Has W v.f t.fixed
 below:∃ js,RE.Has W v.b js
 quarter:HasM Q.val W v.qm (numQ t.ground)
 edge:HasM E.val W v.em (numE L)
 pieces:HasPP W v.pv v.pvs ps
 cflat:flatV v.c
theorem BdAt.keep {W W':World} {bb:Nat} {v:BV} {t:Tk} {L:List E} {ps:List (List HP)} {bel:W3} (h:BdAt W bb v t L ps bel) (e:Bw W W'):BdAt W' bb v t L ps bel :=
 ⟨(e.block _ (ya.1 h.blk).1).trans h.blk,h.ground.below e,h.kinds.below e,h.counts.below e,h.fixed.below e,h.below.imp λ _ hj=>hj.below e,h.quarter.below e,h.edge.below e,h.pieces.below e,h.cflat⟩
def canPut (s:HS) (p:HP) (c:Int) (bel:W3):Prop:=s.set &&& p.set=0/\(s.many p.ld.kind.toNat:Int)<c/\andW (andW s.bord p.bord) bel=(0,0,0)
def hpT (g:List Q) (L:List E) (p:Pc):HP:=⟨p.ld,setG (λ q=>decide (q∈p.qs)) g,wordsE (λ e=>decide (e∈borderE p.qs)) L⟩
def jointT (s:List Pc) (e:E):Bool:=decide (2<=(s.filter λ p=>decide (e∈borderE p.qs)).length)
structure StT (g:List Q) (L:List E) (s:List Pc) (S:HS):Prop where
 set:S.set=setG (covT s) g
 bord:S.bord=wordsE (bordT s) L
 joint:S.joint=wordsE (jointT s) L
 many:∀ k:Nat,S.many k=manyT s (k:Int)
theorem mf (P R:E->Bool) (L:List E):orW (wordsE P L) (wordsE R L)=wordsE (λ e=>P e||R e) L:=by
 unfold orW wordsE;simp only[eS]
theorem bu (P R:E->Bool) (L:List E):andW (wordsE P L) (wordsE R L)=wordsE (λ e=>P e&&R e) L:=by
 unfold andW wordsE;simp only[gO]
theorem Bm (s:List Pc) (p:Pc) (q:Q):covT (s++[p]) q=(covT s q||decide (q∈p.qs)):=by simp[covT]
theorem vw (s:List Pc) (p:Pc) (e:E):bordT (s++[p]) e=(bordT s e||decide (e∈borderE p.qs)):=by simp[bordT]
theorem sD (s:List Pc) (p:Pc) (k:Int):manyT (s++[p]) k=manyT s k+(if p.ld.kind=k then 1 else 0):=by
 unfold manyT;rw[kf,yL];congr 1;by_cases h:p.ld.kind=k <;> simp[h]
theorem Cb {s:List Pc} {e:E}:bordT s e=true↔1<=(s.filter λ p=>decide (e∈borderE p.qs)).length:=by
 unfold bordT;rw[YN];constructor
 ·rintro⟨p,C,B⟩;exact List.length_pos_of_mem (YZ.2 ⟨C,B⟩)
 intro h;obtain⟨p,A⟩:=List.exists_mem_of_length_pos h;exact⟨p,(YZ.1 A).1,(YZ.1 A).2⟩
theorem oW (s:List Pc) (p:Pc) (e:E):jointT (s++[p]) e=(jointT s e||(bordT s e&&decide (e∈borderE p.qs))):=by
 have A:=Cb (s:=s) (e:=e);unfold jointT;rw[kf,yL];by_cases h:e∈borderE p.qs
 ·simp only[kB,h,decide_true,if_true,kZ,yA,yN,kT];rw[YL,kh,yS,yS,A];omega
 simp only[kB,h,decide_false,kZ,yN,Bool.and_false,Bool.or_false,Nat.add_zero];simp
theorem vd {t:Tk} {L:List E} {s:List Pc} {S:HS} {p:Pc} {k:Nat} {c:Int} (h:StT t.ground L s S) (hp:∀ q∈p.qs,q∈t.ground) (hL:∀ e∈borderE p.qs,e∈L) (h192:L.length<=192)
  (hk:p.ld.kind=k) (hc:t.counts[k]?=some c):canPut S (hpT t.ground L p) c (wordsE (λ e=>decide (e∈t.below)) L)↔putT t s p=some (s++[p]):=by
 have C:S.set &&& (hpT t.ground L p).set=0↔∀ q∈p.qs,covT s q=false:=by
  rw[h.set,hpT];simp only;rw[gO,eV];constructor
  ·intro A q hq;have:=A q (hp q hq);simpa[hq]using this
  intro A q _;by_cases hq:q∈p.qs
  ·simp[A q hq]
  simp[hq]
 have B:t.counts.getD p.ld.kind.toNat 0=c:=by rw[hk];simp[yu,hc]
 have D:andW (andW S.bord (hpT t.ground L p).bord) (wordsE (λ e=>decide (e∈t.below)) L)=(0,0,0)↔clashT t.below s p=false:=by
  rw[h.bord,hpT];simp only;rw[bu,bu,dd h192];unfold clashT;rw[List.any_eq_false];constructor
  ·intro A e he hb;have:=A e (hL e he);simp only[Yq,yS]at hb;simp[he,hb.1,hb.2]at this
  intro A e _;by_cases he:e∈borderE p.qs
  ·have:=A e he;simpa[he]using this
  simp[he]
 have F:(S.many (hpT t.ground L p).ld.kind.toNat:Int)=manyT s p.ld.kind:=by rw[h.many];simp[hpT,hk]
 unfold canPut;rw[C,D,F];constructor
 ·rintro⟨a,b,d⟩;exact tS a (by rw[B];exact b) d
 ·intro A;obtain⟨_,a,b,d⟩:=bn A;exact⟨a,by rw[B]at b;exact b,d⟩
theorem DQ {t:Tk} {s:List Pc} {p:Pc} (h:¬ putT t s p=some (s++[p])):putT t s p=none:=by
 unfold putT at *;split
 ·rfl
 rename_i hn;rw[Yy hn]at h;exact kV rfl h
theorem st_snoc {g:List Q} {L:List E} {s:List Pc} {S S':HS} {p:Pc} {k:Nat} (h:StT g L s S) (hk:p.ld.kind=k) (h1:S'.set=S.set ||| (hpT g L p).set) (h2:S'.bord=orW S.bord (hpT g L p).bord)
  (h3:S'.joint=orW S.joint (andW S.bord (hpT g L p).bord)) (h4:S'.many=(λ j=>if j=k then S.many k+1 else S.many j)):StT g L (s++[p]) S':=by
 refine⟨?_,?_,?_,λ j=>?_⟩
 ·rw[h1,h.set,hpT];simp only;rw[eS];exact aO λ q _=>(Bm s p q).symm
 ·rw[h2,h.bord,hpT];simp only;rw[mf];exact ae λ e _=>(vw s p e).symm
 ·rw[h3,h.joint,h.bord,hpT];simp only;rw[bu,mf];exact ae λ e _=>(oW s p e).symm
 ·rw[h4,sD,hk];simp only;by_cases hj:j=k
  ·subst hj;rw[Yz rfl,Yz rfl,h.many]
  rw[Yy hj,Yy (by omega),h.many,Nat.add_zero]
theorem zk {W W':World} {base:Nat} {e:TypeId} {size:Nat} {v:Value} {n:Nat} {xs:List Value} (h:W.ownsRow base e size v n xs) (hk:∀ k,v.ownBlock=some k->W'.heap[k]?=W.heap[k]?):W'.ownsRow base e size v n xs :=
 ⟨h.1,h.2.elim .inl λ ⟨g,cap,cur,h1,h2,h3,h4⟩=>.inr ⟨g,cap,cur,h1,h2,(hk g (by rw[h1];rfl)).trans h3,h4⟩⟩
theorem qg {W:World} {base:Nat} {e:TypeId} {size:Nat} {v:Value} {n:Nat} {xs:List Value} (h:W.ownsRow base e size v n xs) {k:Nat} (hk:v.ownBlock=some k):base<=k/\k<W.heap.size/\∃ cur,W.heap[k]?=some (.cells cur e (0,0)):=by
 rcases h.2 with⟨rfl,_⟩|⟨g,cap,cur,rfl,h2,h3,_⟩
 ·cases hk
 cases hk
 exact⟨h2,(ya.1 h3).1,cur,h3⟩
attribute [local go_sem] Oper.semAt_some
instance :Inhabited HP:=⟨⟨⟨0,false,0,0,0⟩,0,(0,0,0)⟩⟩
def leastH (p:HP):Nat:=Lib.ctz 64 p.set
def cmpP (p q:HP):Int:=cmpI (leastH p) (leastH q)
theorem bS {p q:HP}:cmpP p q<0↔leastH p<leastH q:=by
 unfold cmpP cmpI;split
 ·rename_i h;constructor <;> intro _ <;> omega
 split <;> constructor <;> intro _ <;> omega
theorem iG:Sort.SWO (ltOf cmpP) where
 irrefl x:=yv (λ h=>Nat.lt_irrefl _ (bS.1 h))
 trans x y z h1 h2:=yw (bS.2 (Nat.lt_trans (bS.1 (of_decide_eq_true h1)) (bS.1 (of_decide_eq_true h2))))
 ntrans x y z h1 h2:=by
  have h1:=of_decide_eq_false h1;have h2:=of_decide_eq_false h2;refine yv (λ h=>?_);have h:=bS.1 h;rw[bS]at h1 h2;omega
theorem nw {α:Type} [Inhabited α] (R:REnc α) (d:Array α) (j:Nat) (hn:0<R.n) (hj:j<d.size*R.n):∃ e,d.toList[j / R.n]?=some e/\(Sort.flatK R.vals R.n d)[j]! =((R.vals e)[j % R.n]?).getD default:=by
 have A:j / R.n<d.size:=by rw[Nat.div_lt_iff_lt_mul hn];exact hj
 refine⟨d[j / R.n],by simp[A],?_⟩;rw[Sort.get_flatK _ _ _ _ hj,getElem!_pos d (j / R.n) A];exact List.getElem!_eq_getElem?_getD ..
theorem jm {α:Type} (R:REnc α) {l:List α} {j:Nat} {e:α} (hn:0<R.n) (h:l[j / R.n]?=some e):(R.cells l)[j]?=some (((R.vals e)[j % R.n]?).getD default):=by
 have A:=Nat.mod_lt j hn;have:=R.cells_get h (j % R.n) A;rw[Nat.mul_comm,Nat.div_add_mod]at this;rw[this];have B:j % R.n<(R.vals e).length:=by rw[R.len];exact A
 simp[B]
def SubG (w:World):Type:={ W:World // Grew w W }
instance (w:World):Nonempty (SubG w):=⟨⟨w,Grew.refl w⟩⟩
theorem Cl {P:Program} {id:Nat} {Q:Exit->Act->World->Prop} {a:Act} {w:World} {l:List Oper} (n:Nat) (hm:P.follows .mixedOrders=true) (hB:qtB l.toArray n=true)
  (h:wpQuiet P l.toArray (λ w'=>∃ d:SubG w,w'=d.1) (λ a'=>∀ d:SubG w,wpList P l.toArray Q (l.drop n) a' d.1) (l.take n) a):(Code.region id l.toArray true).wp P Q a w:=by
 refine iT n hm hB (λ w'=>∃ d:SubG w,w'=d.1) ⟨⟨w.drew,(Grew.refl w).drew⟩,rfl⟩ ?_;have e:(λ a'=>∀ d:SubG w,wpList P l.toArray Q (l.drop n) a' d.1)=(λ a'=>∀ w',(∃ d:SubG w,w'=d.1)->wpList P l.toArray Q (l.drop n) a' w'):=by
  funext a';apply propext
  exact⟨λ h w' ⟨n,e⟩=>e▸h n,λ h nq=>h _ ⟨nq,rfl⟩⟩
 rwa [e]at h
theorem SubG.block {w:World} (d:SubG w) {b:Nat} {o:Obj} (h:w.heap[b]?=some o):d.1.heap[b]?=some o:=(d.2.below.block b (ya.1 h).1).trans h
def TbAt (w:World):Prop:=TabAt 1 Lib.deBruijn64tab w
theorem TbAt.lt {w:World} (h:TbAt w):1<w.heap.size:=by
 have:=h 0 (by decide);unfold World.cell? at this
 cases hh:w.heap[1]? with
 | none=>simp[hh]at this
 | some o=>exact(ya.1 hh).1
theorem TbAt.move {w w':World} (h:TbAt w) (e:w'.heap[1]?=w.heap[1]?):TbAt w':=λ j hj=>(cell_of_block (x:=⟨1,j,none⟩) e).trans (h j hj)
theorem TbAt.below {w w':World} (h:TbAt w) (e:Bw w w'):TbAt w':=h.move (e.block _ h.lt)
theorem lU (x:Nat) (hx:x<2 ^ 64) (w:World) (hT:TbAt w) :
  Calls Tryz.prog 126 #[.int .u64 x] w λ e w'=>e=.returned (.int .i64 (Lib.ctz 64 x))/\w'=w:=by
 have h:=Any7.bits_TrailingZeros64 Tryz.laysTz x (by omega) w (λ _=>hT);exact h
theorem fb (p:HP) (hp:p.set<2 ^ 64) (w:World) (hT:TbAt w) :
  Calls Tryz.prog 94 #[RP.val p] w λ e w'=>e=.returned (.int .i64 (leastH p))/\Grew w w':=by
 obtain⟨⟨k,m,D,x,y⟩,A,C,G,F⟩:=p;have B:∀ W,Grew w W->Calls Tryz.prog 126 #[.int .u64 A] W λ e w'=>e=.returned (.int .i64 (Lib.ctz 64 A))/\w'=W:=λ W hg=>lU A hp W (hT.below hg.below);show Calls _ _ #[.agg #[.int .i64 k,.bool m,.int .i64 D,.int .i64 x,.int .i64 y,.int .u64 A,.int .u64 C,.int .u64 G,.int .u64 F]] _ _;unfold leastH;simp only;generalize Lib.ctz 64 A=n at B;go_enter func94,ntmps94;go_wp2_with (refine(B _ (Grew.alloc (Grew.refl w) _)).mono ?_;rintro e w' ⟨rfl,rfl⟩);go_ret;exact⟨rfl,Grew.alloc (Grew.refl w) _⟩
theorem oP {w:World} (p:HP) (hp:p.set<2 ^ 64) (hT:TbAt w) (d:SubG w) :
  Calls Tryz.prog 94 #[RP.val p] d.1 λ e w'=>e=.returned (.int .i64 (leastH p))/\∃ d':SubG w,w'=d'.1:=by
 refine(fb p hp d.1 (hT.below d.2.below)).mono ?_;rintro e w' ⟨rfl,A⟩;exact⟨rfl,⟨⟨w',d.2.trans A⟩,rfl⟩⟩
theorem tu {w:World} (a b:Int) (d:SubG w):Calls Tryz.prog 93 #[.int .i64 a,.int .i64 b] d.1 λ e w'=>e=.returned (.int .i64 (cmpI a b))/\∃ d':SubG w,w'=d'.1:=by
 refine(co a b d.1).mono ?_;rintro e w' ⟨rfl,rfl⟩;exact⟨rfl,d,rfl⟩
theorem zw (p q:HP) (hp:p.set<2 ^ 64) (hq:q.set<2 ^ 64) (w:World) (hT:TbAt w) :
  Calls Tryz.prog 92 #[RP.val p,RP.val q] w λ e w'=>e=.returned (.int .i64 (cmpP p q))/\Grew w w':=by
 obtain⟨⟨C,J,I,D,H⟩,G,A,B,F⟩:=p;obtain⟨⟨T,O,K,L,M⟩,N,P,S,R⟩:=q;have Z:TbAt ((w.alloc (.cells #[.int .i64 C,.bool J,.int .i64 I,.int .i64 D,.int .i64 H,.int .u64 G,.int .u64 A,.int .u64 B,.int .u64 F] 152)).alloc (.cells #[.int .i64 T,.bool O,.int .i64 K,.int .i64 L,.int .i64 M,.int .u64 N,.int .u64 P,.int .u64 S,.int .u64 R] 152)):=hT.below (((yf _ w).alloc (ye _) _).alloc (by simp) _);have Y:Hid (∀ d:SubG ((w.alloc (.cells #[.int .i64 C,.bool J,.int .i64 I,.int .i64 D,.int .i64 H,.int .u64 G,.int .u64 A,.int .u64 B,.int .u64 F] 152)).alloc (.cells #[.int .i64 T,.bool O,.int .i64 K,.int .i64 L,.int .i64 M,.int .u64 N,.int .u64 P,.int .u64 S,.int .u64 R] 152)),Calls Tryz.prog 94 #[.agg #[.int .i64 C,.bool J,.int .i64 I,.int .i64 D,.int .i64 H,.int .u64 G,.int .u64 A,.int .u64 B,.int .u64 F]] d.1 λ e w'=>e=.returned (.int .i64 (leastH ⟨⟨C,J,I,D,H⟩,G,(A,B,F)⟩))/\∃ d':SubG _,w'=d'.1):=yK λ d=>oP ⟨⟨C,J,I,D,H⟩,G,(A,B,F)⟩ hp Z d;have X:Hid (∀ d:SubG ((w.alloc (.cells #[.int .i64 C,.bool J,.int .i64 I,.int .i64 D,.int .i64 H,.int .u64 G,.int .u64 A,.int .u64 B,.int .u64 F] 152)).alloc (.cells #[.int .i64 T,.bool O,.int .i64 K,.int .i64 L,.int .i64 M,.int .u64 N,.int .u64 P,.int .u64 S,.int .u64 R] 152)),Calls Tryz.prog 94 #[.agg #[.int .i64 T,.bool O,.int .i64 K,.int .i64 L,.int .i64 M,.int .u64 N,.int .u64 P,.int .u64 S,.int .u64 R]] d.1 λ e w'=>e=.returned (.int .i64 (leastH ⟨⟨T,O,K,L,M⟩,N,(P,S,R)⟩))/\∃ d':SubG _,w'=d'.1):=yK λ d=>oP ⟨⟨T,O,K,L,M⟩,N,(P,S,R)⟩ hq Z d;have U:=(Below.heap_alloc (w.alloc (.cells #[.int .i64 C,.bool J,.int .i64 I,.int .i64 D,.int .i64 H,.int .u64 G,.int .u64 A,.int .u64 B,.int .u64 F] 152)) (.cells #[.int .i64 T,.bool O,.int .i64 K,.int .i64 L,.int .i64 M,.int .u64 N,.int .u64 P,.int .u64 S,.int .u64 R] 152) _ (by simp)).trans (yd w (.cells #[.int .i64 C,.bool J,.int .i64 I,.int .i64 D,.int .i64 H,.int .u64 G,.int .u64 A,.int .u64 B,.int .u64 F] 152));have V:=bL w (.cells #[.int .i64 C,.bool J,.int .i64 I,.int .i64 D,.int .i64 H,.int .u64 G,.int .u64 A,.int .u64 B,.int .u64 F] 152) (.cells #[.int .i64 T,.bool O,.int .i64 K,.int .i64 L,.int .i64 M,.int .u64 N,.int .u64 P,.int .u64 S,.int .u64 R] 152);have a:Grew w ((w.alloc (.cells #[.int .i64 C,.bool J,.int .i64 I,.int .i64 D,.int .i64 H,.int .u64 G,.int .u64 A,.int .u64 B,.int .u64 F] 152)).alloc (.cells #[.int .i64 T,.bool O,.int .i64 K,.int .i64 L,.int .i64 M,.int .u64 N,.int .u64 P,.int .u64 S,.int .u64 R] 152)):=((Grew.refl w).alloc _).alloc _;unfold cmpP;show Calls _ _ #[.agg #[.int .i64 C,.bool J,.int .i64 I,.int .i64 D,.int .i64 H,.int .u64 G,.int .u64 A,.int .u64 B,.int .u64 F],.agg #[.int .i64 T,.bool O,.int .i64 K,.int .i64 L,.int .i64 M,.int .u64 N,.int .u64 P,.int .u64 S,.int .u64 R]] _ _;generalize leastH ⟨⟨C,J,I,D,H⟩,G,(A,B,F)⟩=n1 at Y ⊢;generalize leastH ⟨⟨T,O,K,L,M⟩,N,(P,S,R)⟩=n2 at X ⊢;clear hp hq hT Z;go_enter func92,ntmps92;go_wp2_with fail;revert Y X U V a;generalize ((w.alloc (.cells #[.int .i64 C,.bool J,.int .i64 I,.int .i64 D,.int .i64 H,.int .u64 G,.int .u64 A,.int .u64 B,.int .u64 F] 152)).alloc (.cells #[.int .i64 T,.bool O,.int .i64 K,.int .i64 L,.int .i64 M,.int .u64 N,.int .u64 P,.int .u64 S,.int .u64 R] 152))=W;intro U V a Y X;have f:∀ d:SubG W,d.1.cell? ⟨w.heap.size,0,none⟩=some (.int .i64 C):=λ d=>by simp[World.cell?,d.block U]
 have b:∀ d:SubG W,d.1.cell? ⟨w.heap.size,1,none⟩=some (.bool J):=λ d=>by simp[World.cell?,d.block U]
 have t:∀ d:SubG W,d.1.cell? ⟨w.heap.size,2,none⟩=some (.int .i64 I):=λ d=>by simp[World.cell?,d.block U]
 have i:∀ d:SubG W,d.1.cell? ⟨w.heap.size,3,none⟩=some (.int .i64 D):=λ d=>by simp[World.cell?,d.block U]
 have g:∀ d:SubG W,d.1.cell? ⟨w.heap.size,4,none⟩=some (.int .i64 H):=λ d=>by simp[World.cell?,d.block U]
 have x:∀ d:SubG W,d.1.cell? ⟨w.heap.size,5,none⟩=some (.int .u64 G):=λ d=>by simp[World.cell?,d.block U]
 have s:∀ d:SubG W,d.1.cell? ⟨w.heap.size,6,none⟩=some (.int .u64 A):=λ d=>by simp[World.cell?,d.block U]
 have k:∀ d:SubG W,d.1.cell? ⟨w.heap.size,7,none⟩=some (.int .u64 B):=λ d=>by simp[World.cell?,d.block U]
 have y:∀ d:SubG W,d.1.cell? ⟨w.heap.size,8,none⟩=some (.int .u64 F):=λ d=>by simp[World.cell?,d.block U]
 have r:∀ d:SubG W,d.1.cell? ⟨w.heap.size+1,0,none⟩=some (.int .i64 T):=λ d=>by simp[World.cell?,d.block V]
 have z:∀ d:SubG W,d.1.cell? ⟨w.heap.size+1,1,none⟩=some (.bool O):=λ d=>by simp[World.cell?,d.block V]
 have m:∀ d:SubG W,d.1.cell? ⟨w.heap.size+1,2,none⟩=some (.int .i64 K):=λ d=>by simp[World.cell?,d.block V]
 have j:∀ d:SubG W,d.1.cell? ⟨w.heap.size+1,3,none⟩=some (.int .i64 L):=λ d=>by simp[World.cell?,d.block V]
 have v:∀ d:SubG W,d.1.cell? ⟨w.heap.size+1,4,none⟩=some (.int .i64 M):=λ d=>by simp[World.cell?,d.block V]
 have h:∀ d:SubG W,d.1.cell? ⟨w.heap.size+1,5,none⟩=some (.int .u64 N):=λ d=>by simp[World.cell?,d.block V]
 have l:∀ d:SubG W,d.1.cell? ⟨w.heap.size+1,6,none⟩=some (.int .u64 P):=λ d=>by simp[World.cell?,d.block V]
 have c:∀ d:SubG W,d.1.cell? ⟨w.heap.size+1,7,none⟩=some (.int .u64 S):=λ d=>by simp[World.cell?,d.block V]
 have n:∀ d:SubG W,d.1.cell? ⟨w.heap.size+1,8,none⟩=some (.int .u64 R):=λ d=>by simp[World.cell?,d.block V]
 refine Cl 5 (by kernel_rfl) (by kernel_rfl) ?_;simp only[yh,yj,yi,yl]
 repeat(go_big_quiet_step (fail))
 go_big_quiet_step (exact Y.o _)
 repeat(go_big_quiet_step (fail))
 go_big_quiet_step (exact X.o _)
 repeat(go_big_quiet_step (fail))
 go_big_quiet_step (exact tu _ _ _)
 repeat(go_big_quiet_step (fail))
 refine wpQuiet_nil ?_;intro dq;go_wp2_with fail;go_ret;exact⟨rfl,a.trans dq.2⟩
structure HPo where
 p:HP
 lt:p.set<2 ^ 64
instance :Inhabited HPo:=⟨⟨⟨⟨0,false,0,0,0⟩,0,(0,0,0)⟩,by decide⟩⟩
def RPo:REnc HPo:=⟨152,9,λ p=>hpVals p.1,λ _=>rfl,λ p u h=>RP.one p.1 u h⟩
theorem iR:∀ l:List HPo,RPo.cells l=RP.cells (l.map (·.1))
 | []=>rfl
 | p :: l=>by
  have:=iR l;simp only[REnc.cells,YT,yM]at this ⊢;rw[this];rfl
def cmpO (p q:HPo):Int:=cmpP p.1 q.1
theorem CG:Sort.SWO (ltOf cmpO) where
 irrefl x:=iG.irrefl x.1
 trans x y z h1 h2:=iG.trans x.1 y.1 z.1 h1 h2
 ntrans x y z h1 h2:=iG.ntrans x.1 y.1 z.1 h1 h2
theorem su (base g cap:Nat) (l:List HPo) (W:World) (hT:TbAt W) (hTg:1≠g) (hq:RPo.Own W base (.slice (some ⟨g,0,none⟩) l.length cap) l) (hn:l.length<=1000000) :
  Calls Tryz.prog 91 #[.slice (some ⟨g,0,none⟩) l.length cap,.func (.func 92) #[] #[]] W λ e W' =>
   e=.returned (.tuple #[])/\∃ l':List HPo,l'.Perm l/\l'.Pairwise (λ a b=>¬ leastH b.1<leastH a.1)/\RPo.Own W' base (.slice (some ⟨g,0,none⟩) l'.length cap) l'/\l'.length=l.length/\BelowBut W.heap.size g W W':=by
 obtain⟨Y,L⟩:=hq.lt g rfl;have U:∀ j,W.frozen? ⟨g,j,none⟩=false:=λ j=>by
  rcases hq.2 with⟨h,_⟩|⟨g',cap',cur,hv,_,h2,_⟩
  ·cases h
  simp only[yC,yo,Addr.mk.injEq,and_true]at hv;obtain⟨rfl,_⟩:=hv;exact frozen_of_row W _ j _ _ h2
 have X:Sort.HoldsK RPo.vals 9 W g 0 l.toArray:=λ j hj=>by
  rw[Sort.size_flatK]at hj;obtain⟨e,R,S⟩:=nw RPo l.toArray j (by decide) hj;have D:(Sort.flatK RPo.vals 9 l.toArray)[j]! =((RPo.vals e)[j % 9]?).getD default:=S;rw[D,YM];refine⟨?_,U j⟩;have:=hq.cells (g:=g) rfl j _ (jm RPo (by decide) (by simpa using R));rwa [qW]at this
 have J:CmpLays Tryz.prog 92 #[] RPo.vals 9 cmpO g 0 l.toArray.size W:=λ m os dk _ x y =>
  zw x.1 y.1 x.2 y.2 _ (hT.move (eO RPo.vals 9 W g 0 m dk os hT.lt hTg))
 have B:=AnyQ.slices_SortFunc Tryz.sortPc 9 isAgg152 sizeOf152 RPo.vals RPo.len RPo.one cmpO CG 92 #[] g 0 cap l.toArray W (enters_of func92 (by kernel_rfl) rfl) J X L (by simp;omega);rw[show l.toArray.size=l.length by simp]at B;change Calls Tryz.prog 91 _ _ _ at B;refine B.mono ?_;rintro e W' ⟨rfl,d',nn,os,hp,hs,rfl⟩;have A:d'.size=l.length:=by simpa using hp.1
 have G:d'.toList.Perm l:=by
  have:=hp.2.2;rw[show d'.extract 0 l.length=d' by rw[<- A];simp,show l.toArray.extract 0 l.length=l.toArray by simp]at this;simpa using this
 have V:=holdsK_sortWorldK_c (α:=HPo) RPo.vals 9 W g 0 l.toArray d' nn os X L (by simpa using A);refine⟨rfl,d'.toList,G,?_,?_,by simpa using A,⟨rfl,rfl,rfl,size_sortWorldK_c RPo.vals 9 W g 0 nn d' os,λ k hk hne=>eO RPo.vals 9 W g 0 nn d' os hk hne⟩⟩
 ·rw[YJ];intro i j hi hj hij;have T:i<d'.size:=by simpa using hi
  have I:j<d'.size:=by simpa using hj
  have:=hs i j (YB _) hij (by rw[<- A];exact I);rw[getElem!_pos d' i T,getElem!_pos d' j I]at this;have:=of_decide_eq_false this;intro O;exact this (bS.2 (by simpa using O))
 ·rcases hq.2 with⟨h,_⟩|⟨g',cap',cur,hv,hb,h2,h3,h4,h5,_⟩
  ·cases h
  simp only[yC,yo,Addr.mk.injEq,and_true]at hv;obtain⟨rfl,_,rfl⟩:=hv;obtain⟨C,H,N⟩:=li RPo.vals 9 W g 0 nn d' os h2;have M:d'.toList.length=l.length:=by simpa using A
  refine⟨by rw[REnc.cells_length],.inr ⟨g,cap,C,rfl,hb,H,by rw[M];exact h3,h4,by rw[N];exact h5,?_⟩⟩;have K:RPo.n=9:=rfl;show C.toList.take (d'.toList.length*9)=RPo.cells d'.toList;refine Kd λ j=>?_;by_cases hj:j<d'.toList.length*9
  ·have P:j<(Sort.flatK RPo.vals 9 d').size:=by rw[Sort.size_flatK];simpa using hj
   have h:=(V j P).1;rw[YM]at h;have F:(sortWorldK RPo.vals 9 W g 0 nn d' os).cell? ⟨g,j,none⟩=C[j]?:=(by simp[World.cell?,H]);rw[F]at h;obtain⟨e,R,S⟩:=nw RPo d' j (by decide) (by rw[K];simpa using hj);have D:(Sort.flatK RPo.vals 9 d')[j]! =((RPo.vals e)[j % 9]?).getD default:=S;rw[List.getElem?_take_of_lt hj,jm RPo (by decide) R];rw[D]at h;rw[Yp];exact h
  rw[kq (by rw[Ye];omega),kq (by rw[REnc.cells_length,K];omega)]
theorem nG {α:Type} (f:α->Nat):∀ {l m:List α},l.Perm m->l.Pairwise (λ a b=>¬ f b<f a)->m.Pairwise (λ a b=>f a<f b)->l=m
 | [],m,h,_,_=>(List.nil_perm.1 h).symm
 | a :: l,[],h,_,_=>by have:=h.length_eq;simp at this
 | a :: l,b :: m,h,h1,h2=>by
  have ha:a=b:=by
   rcases Yd.1 (h.mem_iff.1 List.mem_cons_self)with e|e
   ·exact e
   rcases Yd.1 (h.mem_iff.2 List.mem_cons_self)with e'|e'
   ·exact e'.symm
   have A:=(YQ.1 h1).1 b e';have B:=(YQ.1 h2).1 a e;omega
  subst ha;rw[nG f (List.Perm.cons_inv h) (YQ.1 h1).2 (YQ.1 h2).2]
theorem sH (base:Nat) (v:Value) (l m:List HP) (W:World) (hT:TbAt W) (hTg:1<base) (hq:RP.Own W base v l) (hne:l≠[]) (hn:l.length<=1000000) (hl:∀ p∈l,p.set<2 ^ 64)
  (hm:m.Perm l) (hs:m.Pairwise λ a b=>leastH a<leastH b) :
  Calls Tryz.prog 91 #[v,.func (.func 92) #[] #[]] W λ e W' =>
   e=.returned (.tuple #[])/\RP.Own W' base v m/\W.heap.size<=W'.heap.size/\W'.os=W.os/\W'.tape=W.tape/\W'.output=W.output/\∀ k,k<W.heap.size->v.ownBlock≠some k->W'.heap[k]?=W.heap[k]?:=by
 obtain⟨B,rfl⟩:∃ B:List HPo,l=B.map (·.1):=⟨l.attach.map λ x=>⟨x.1,hl x.1 x.2⟩,by rw[kl];exact(List.attach_map_subtype_val l).symm⟩;obtain⟨g,A,C,G⟩:∃ g A,v=.slice (some ⟨g,0,none⟩) B.length A/\base<=g:=by
  rcases hq.2 with⟨_,F⟩|⟨g,A,cur,C,hb,_⟩
  ·exact kV (yT.1 F) hne
  exact⟨g,A,by rw[C,yB],hb⟩
 subst C;have D:RPo.Own W base (.slice (some ⟨g,0,none⟩) B.length A) B:=by
  show W.ownsRow base _ 9 _ B.length (RPo.cells B);rw[iR];have:W.ownsRow base RP.ty RP.n (.slice (some ⟨g,0,none⟩) B.length A) (B.map (·.1)).length (RP.cells (B.map (·.1))):=hq;rw[yB]at this;exact this
 refine(su base g A B W hT (by omega) D (by simpa using hn)).mono ?_;rintro e W' ⟨rfl,l',hp,hpw,ho,hlen,hb⟩;have e:l'.map (·.1)=m:=nG leastH ((hp.map _).trans hm.symm) (List.pairwise_map.2 hpw) hs;refine⟨rfl,?_,hb.size,hb.os,hb.tape,hb.output,λ k hk hne=>hb.block k hk λ e=>hne (by rw[e];rfl)⟩;subst e;show W'.ownsRow base _ 9 _ (l'.map (·.1)).length (RP.cells (l'.map (·.1)));rw[<- iR,yB,<- hlen];exact ho
end Go.Proofs.YtiinlplgloaanaaGreatDoor
namespace Go.Proofs.YtiinlplgloaanaaGreatDoor
open Go.Proofs.Tryz Go.RowKit Go.ChangeShapes Go.WideShapes Go.Deep
theorem oo:Tryz.prog.globalNamed "math/bits.deBruijn64tab"=some 1:=by kernel_rfl
theorem Bv:(Tryz.prog.globals[1]?).map (·.type)=some 243:=by kernel_rfl
theorem Ah {l:List (String × DataW Unit)} {W:World} (hm:("math/bits.deBruijn64tab",Rows.laid_math_bits_deBruijn64tab)∈l) (h:laidMet Tryz.prog l W):TbAt W:=by
 obtain⟨g,t,F,B,p,G,H,A,hd⟩:=Lib.laidMet.reads h hm;obtain rfl:=YX (oo.symm.trans G);obtain rfl:=YX (Bv.symm.trans H);have C:DataW.trod (λ _=>()) Tryz.prog W 0 (λ _=>true) false B 243 F.toList=some (Lib.tabData .u8 (Lib.deBruijn64tab.map λ n:Nat=>(n:Int)),p):=hd;have D:=Lib.cells_of_tab underlying243 underlying5 (by kernel_rfl) (by kernel_rfl) C;unfold World.var? at A;rw[oo]at A;simp only[Option.bind_some]at A;split at A
 ·rename_i cs' t' fr hw
  cases A
  intro j hj;simp only[World.cell?,hw];simp only[Option.isSome_none,Yn,if_false];rw[<- Yp,D,yQ,yQ,yb hj];simp[List.getD,yb hj]
 cases A
noncomputable def laidWorld6 (os:Os):World :=
 let w0:=World.holding Tryz.prog os ⟨#[],#[],[]⟩
 let put (h:Array Obj) (g:Nat) (cs:Array Value):Array Obj:=h.modify g fun
  | .cells _ t frozen=>.cells cs t frozen
  | o=>o
 let h1:=put w0.heap 0 kindsA
 let h2:=put h1 4 (Lib.firstTab.map λ z=>Value.int .u8 z).toArray
 let h3:=put h2 5 ((List.range 16).flatMap λ i=>[Value.int .u8 (Lib.accLo i),Value.int .u8 (Lib.accHi i)]).toArray
 let h4:=put h3 1 (Lib.deBruijn64tab.map λ n:Nat=>Value.int .u8 n).toArray
 let h5:=put h4 6 (Lib.deBruijn32tab.map λ n:Nat=>Value.int .u8 n).toArray
 let h6:=put h5 3 ((List.range 20).map λ n:Nat=>Value.int .u64 (10 ^ n:Nat)).toArray
 { w0 with heap:=h6 }
end Go.Proofs.YtiinlplgloaanaaGreatDoor
namespace Go.Proofs.YtiinlplgloaanaaGreatDoor
open Go.Proofs.Tryz Go.RowKit
section
variable {P:Program} {ops:Array Oper}
def jqB (ops:Array Oper) (m:Nat):Bool :=
 (ops.all λ o=>o.guard==none) &&
 ((List.range ops.size).all λ i=>match ops[i]? with|some o=>o.after.all λ e=>!Region.binds .any e||decide (e.on<i)|none=>true) &&
 ((List.range ops.size).all λ i=>(List.range ops.size).all λ j=>match ops[i]?,ops[j]? with
  | some oi,some oj=>(match oj.dst with
   | some d=>(i==j||oi.dst != some d)&&decide (d<m)
   | none=>true)
  | _,_=>true)
structure JQ (ops:Array Oper) (m:Nat):Prop where
 nogd:∀ (i:Nat) (o:Oper),ops[i]?=some o->o.guard=none
 back:∀ (i:Nat) (o:Oper),ops[i]?=some o->∀ e∈o.after,Region.binds .any e=true->e.on<i
 uniq:∀ (i j d:Nat) (oi oj:Oper),ops[i]?=some oi->ops[j]?=some oj->oi.dst=some d->oj.dst=some d->i=j
 dst:∀ (j d:Nat) (oj:Oper),ops[j]?=some oj->oj.dst=some d->d<m
theorem jI {m:Nat} (h:jqB ops m=true):JQ ops m:=by
 simp only[jqB,Yq,YH,kO]at h;obtain⟨⟨C,D⟩,B⟩:=h;have A:∀ (i j d:Nat) (oi oj:Oper),ops[i]?=some oi->ops[j]?=some oj->oj.dst=some d->(i=j\/oi.dst≠some d)/\d<m:=λ i j d oi oj hoi hoj hd=>by
  have:=B i (ya.1 hoi).1 j (ya.1 hoj).1;rw[hoi,hoj]at this;simp only[hd,Yq,kh,beq_iff_eq,bne_iff_ne,yS]at this;exact this
 refine⟨λ i o ho=>?_,λ i o ho e he hb=>?_,λ i j d oi oj hoi hoj h1 h2=>?_,λ j d oj hoj h1=>(A j j d oj oj hoj hoj h1).2⟩
 ·have:=Yo.1 C o (kF ho);exact beq_iff_eq.1 this
 ·have:=D i (ya.1 ho).1;rw[ho]at this;have:=Yo.1 this e he;simpa[hb]using this
 rcases (A i j d oi oj hoi hoj h2).1 with h|h
 ·exact h
 exact kV h1 h
theorem Fill.putJ {a b:Act} {s:Nat->Bool} {val:Nat->Value} {m:Nat} (g:JQ ops m) (h:Fill ops a s val b) {i:Nat} {o:Oper} (ho:ops[i]?=some o) (hsi:s i=false) (v:Value) :
  Fill ops a (λ j=>s j||j==i) (λ j=>if j=i then v else val j) (b.put o.dst v):=by
 refine⟨by rw[bY];exact h.defs,by rw[dg];exact h.size,λ j d oj hoj hd hsj hlt=>?_,λ d hd=>?_⟩
 ·rw[aB];by_cases hji:j=i
  ·subst hji;rw[ho]at hoj;cases hoj;rw[Yz hd,Yz (by have:=h.size;omega),Yz rfl]
  have A:o.dst≠some d:=λ e=>hji (g.uniq j i d oj o hoj ho hd e);rw[Yy A,Yy hji];exact h.hit j d oj hoj hd (by simpa[hji]using hsj) hlt
 ·have A:o.dst≠some d:=λ e=>by have:=hd i o ho e;simp at this
  rw[aB,Yy A];exact h.miss d λ j oj hoj hd'=>by have:=hd j oj hoj hd';simp at this;exact this.1
theorem et {m:Nat} (g:JQ ops m) {i j:Nat} (h:waits ops i j=true):j<i:=by
 obtain⟨oi,hoi,e,he,hb,hon⟩:=zM h;rw[<- hon];exact g.back i oi hoi e he hb
theorem lf {a b:Act} {m:Nat} {vals:Nat->Value} (h:Fill ops a (λ i=>decide (i<ops.size)) vals b) (hq:JQ ops m):b=putAll ops.toList ((List.range ops.size).map vals) a:=by
 have C:∀ k,k<=ops.size->Fill ops a (λ i=>decide (i<k)) vals (Proofs.YtiinlplgloaanaaGreatDoor.putAll (ops.toList.take k) ((List.range k).map vals) a):=by
  intro k
  induction k with
  | zero=>intro _;simp only[yj,YD,Yh,Proofs.YtiinlplgloaanaaGreatDoor.putAll];exact(Fill.start a vals).congr (λ i _=>by simp) (λ _ _ _=>rfl)
  | succ k ih =>
   intro K;have I:=ih (by omega);obtain⟨o,F⟩:∃ o,ops[k]?=some o:=⟨_,yD (by omega)⟩;have e:Proofs.YtiinlplgloaanaaGreatDoor.putAll (ops.toList.take (k+1)) ((List.range (k+1)).map vals) a=(Proofs.YtiinlplgloaanaaGreatDoor.putAll (ops.toList.take k) ((List.range k).map vals) a).put o.dst (vals k):=by
    have D:∀ (l:List Oper) (A:List Value) (a:Act) (o:Oper) (v:Value),l.length=A.length->Proofs.YtiinlplgloaanaaGreatDoor.putAll (l++[o]) (A++[v]) a=(Proofs.YtiinlplgloaanaaGreatDoor.putAll l A a).put o.dst v:=by
     intro l
     induction l with
     | nil=>intro A a o v B;obtain rfl:=yT.1 B.symm;rfl
     | cons x l ih =>
      intro A a o v B
      cases A with
      | nil=>simp at B
      | cons u A=>exact ih A _ o v (by simpa using B)
    have J:ops.toList.take (k+1)=ops.toList.take k++[o]:=by
     have B:ops.toList[k]?=some o:=(by simpa using F);obtain⟨G,H⟩:=yc.1 B;rw[Yr G,H]
    rw[J,Yk,Yl];exact D _ _ _ _ _ (by simp;omega)
   rw[e];refine(I.putJ hq F (by simp) (vals k)).congr (λ i _=>?_) (λ i _ _=>?_)
   ·rw[YL];simp;omega
   split
   ·rename_i h;rw[h]
   rfl
 have:=h.unique (C ops.size (ye _));rwa [kM (by simp)]at this
structure JK (ops:Array Oper) (a:Act) (i:Nat) (L:Nat->Bool) (b:Act) (vals:Nat->Value):Prop where
 old:∀ d:Nat,(∀ (j:Nat) (o:Oper),ops[j]?=some o->o.dst=some d->waits ops j i=true)->b.tmps[d]?=a.tmps[d]?
 new:∀ (j d:Nat) (o:Oper),waits ops i j=true->ops[j]?=some o->o.dst=some d->b.tmps[d]?=some (vals j)
theorem JK.val {a:Act} {i:Nat} {L:Nat->Bool} {b:Act} {vals:Nat->Value} (h:JK ops a i L b vals) (j d:Nat) (hn:newOf ops i j d=true):b.eval (.tmp d)=vals j/\True:=by
 simp only[newOf,Yq]at hn;obtain⟨A,hd⟩:=hn
 cases ho:ops[j]? with
 | none=>rw[ho]at hd;cases hd
 | some o =>
  rw[ho]at hd;have:=h.new j d o A ho (beq_iff_eq.1 hd);exact⟨by simp[Act.eval,this],trivial⟩
def wasOf (ops:Array Oper) (i d:Nat):Bool:=(List.range ops.size).all λ j=>match ops[j]? with|some o=>o.dst != some d||waits ops j i|none=>true
theorem JK.was {a:Act} {i:Nat} {L:Nat->Bool} {b:Act} {vals:Nat->Value} (h:JK ops a i L b vals) (d:Nat) (hn:wasOf ops i d=true):b.eval (.tmp d)=a.eval (.tmp d):=by
 have:=h.old d (λ j o hj hd=>by
  have:=YH.1 hn j (kO.2 (ya.1 hj).1);simpa[hj,hd]using this)
 simp[Act.eval,this]
def jointOne (P:Program) (ops:Array Oper) (a:Act) (J:(Nat->Bool)->(Nat->Value)->World->Prop) (i:Nat) (o:Oper):Prop :=
 ∀ (L:Nat->Bool) (b:Act) (W:World) (vals:Nat->Value),L i=false->(∀ j,waits ops i j=true->L j=true)->(∀ j k,j<ops.size->L j=true->waits ops j k=true->L k=true) ->
  JK ops a i L b vals->J L vals W->loudUpon P (λ v W'=>J (λ j=>L j||j==i) (λ j=>if j=i then v else vals j) W') ((execOp b.eval o).run P W)
def qbM (P:Program) (ops:Array Oper) (a:Act) (J:(Nat->Bool)->(Nat->Value)->World->Prop):Nat->List Oper->Prop
 | _,[]=>True
 | i,o :: rest=>jointOne P ops a J i o/\qbM P ops a J (i+1) rest
theorem jA {a:Act} {J:(Nat->Bool)->(Nat->Value)->World->Prop} (l:List Oper):∀ (k i:Nat) (o:Oper),qbM P ops a J k l->l[i]?=some o->jointOne P ops a J (k+i) o:=by
 induction l with
 | nil=>intro k i o h ho;simp at ho
 | cons x l ih =>
  intro k i o h ho;obtain⟨B,A⟩:=h
  cases i with
  | zero =>
   rw[kK,yo]at ho;rw[<- ho,Nat.add_zero];exact B
  | succ i =>
   rw[kJ]at ho;have:=ih (k+1) i o A ho;rwa [show k+1+i=k+(i+1)by omega]at this
theorem zO {id:Nat} {Q:Exit->Act->World->Prop} {a:Act} {w:World} {l:List Oper} (m:Nat) (hm:P.follows .mixedOrders=true) (hB:jqB l.toArray m=true) (hsz:a.tmps.size=m)
  (J:(Nat->Bool)->(Nat->Value)->World->Prop) (h0:J (λ _=>false) (λ _=>undef) w.drew) (hall:qbM P l.toArray a J 0 l)
  (hdone:∀ (L:Nat->Bool) (vals:Nat->Value) (W:World),(∀ i,i<l.length->L i=true)->J L vals W->Q .normal (putAll l ((List.range l.length).map vals) a) W) :
  (Code.region id l.toArray true).wp P Q a w:=by
 subst hsz;have g:=jI hB;have H:l.toArray.size=l.length:=by simp
 refine wp_region_any hm (dH _ _ _ _ ?_);refine gX (ops:=l.toArray) (S:=λ i K=>wpOp P l.toArray Q i K) (λ L b W=>∃ (L0:Nat->Bool) (vals:Nat->Value),(∀ i,i<l.toArray.size->L i=L0 i)/\Fill l.toArray a L0 vals b/\J L0 vals W) g.back (λ i K K' a w hk=>wpOp_mono hk) ?_ ?_ ?_ l.toArray.size _ a w.drew ⟨λ _=>false,λ _=>undef,λ i _=>qM _ _,Fill.start a (λ _=>undef),h0⟩ (by simp) (br _) (λ j M _ I=>by rw[qM]at I;cases I)
 ·rintro L L' b W hLL ⟨L0,vals,h1,h2,h3⟩;exact⟨L0,vals,λ i hi=>by rw[hLL i hi];exact h1 i hi,h2,h3⟩
 ·rintro L b W i o ⟨L0,vals,h1,h2,h3⟩ hcl hi ho hdeps;have R:i<l.toArray.size:=(ya.1 ho).1;have C:L0 i=false:=by rw[<- h1 i R];exact hi
  have G:∀ j,waits l.toArray i j=true->L0 j=true:=λ j hw=>by
   have:=am (ops:=l.toArray) (L:=L) ho hdeps hw;rw[<- h1 j (by have:=et g hw;omega)];exact this
  have F:∀ j k,j<l.toArray.size->L0 j=true->waits l.toArray j k=true->L0 k=true:=λ j k hj hlj hw=>by
   obtain⟨M,B,e,U,X,T⟩:=zM hw;rw[<- h1 j hj]at hlj;have:=hcl j M B hlj e U X;rw[T]at this;rw[<- h1 k (by have:=et g hw;omega)];exact this
  have O:JK l.toArray a i L0 b vals:=⟨λ d hd=>h2.miss d (λ j o hj hjd=>by
   cases I:L0 j with
   | false=>rfl
   | true=>rw[F j i (ya.1 hj).1 I (hd j o hj hjd)]at C;cases C),λ j d M hw B hd=>h2.hit j d M B hd (G j hw) (g.dst j d M B hd)⟩
  have D:=jA l 0 i o hall (by simpa using ho);rw[YM]at D;have I:=D L0 b W vals C G F O h3;have A:∀ v W',J (λ j=>L0 j||j==i) (λ j=>if j=i then v else vals j) W'->∃ (L1:Nat->Bool) (vals1:Nat->Value),(∀ j,j<l.toArray.size->(L j||j==i)=L1 j)/\Fill l.toArray a L1 vals1 (b.put o.dst v)/\J L1 vals1 W':=λ v W' hJ =>
   ⟨_,_,λ j hj=>by rw[h1 j hj],h2.putJ g ho C v,hJ⟩
  unfold wpOp;simp only[ho,Region.wanted,g.nogd i o ho,if_true,Oper.wp];refine .inl ?_;revert I
  cases (execOp b.eval o).run P W with
  | halt x w'=>exact λ h=>h.elim
  | ok x w' =>
   cases x <;> simp only[loudUpon,Oper.upon] <;> first|exact λ h=>h.elim|exact λ h=>A _ _ h|skip
   case enter f args =>
    refine λ hc=>hc.mono λ e w''=>?_
    cases e with
    | returned v=>exact λ h=>A _ _ h
    | _=>exact λ h=>h.elim
 ·rintro L b W ⟨L0,vals,h1,h2,h3⟩ hL;have N:∀ i,i<l.length->L0 i=true:=λ i hi=>by rw[<- h1 i (by omega)];exact hL i (by omega)
  have V:Fill l.toArray a (λ i=>decide (i<l.toArray.size)) vals b:=h2.congr (λ i hi=>by rw[N i (by omega)];simp;omega) (λ _ _ _=>rfl);have e:=lf V g;rw[H]at e;rw[e];exact hdone L0 vals W N h3
variable {W1 W:World} {e:TypeId} {size k1 k2:Nat} {pre news suf:List Value} {c:Nat->Option Value} {L:Nat->Bool} {vals:Nat->Value}
section
variable {T ty:TypeId} {i:TypeInfo} {z:Value} {bytes:Nat} (ht:P.underlying T=some (.slice e)) (hi:P.info? e=some i) (hz:i.zero=some z) (hsize:i.size=size) (hby:i.bytes=bytes) (hzs:z.cells.size=size) (hsz:0<size)
include ht hi hz hsize hby hzs hsz
end
theorem qC {ops:Array Oper} {L:Nat->Bool} (hC:∀ j k,j<ops.size->L j=true->waits ops j k=true->L k=true) {i j:Nat} (hi:L i=false) (hj:j<ops.size) (hw:waits ops j i=true):L j=false:=by
 cases h:L j with
 | false=>rfl
 | true=>rw[hC j i hj h hw]at hi;cases hi
theorem qI {o:Oper} {s x:Operand} {T:TypeId} {b:Act} {W W':World} {v u y:Value} {next:Value->World->Prop} (ho:o.op=.call { callee:=.builtin .append,args:=#[s,x],argTypes:=#[T,T] })
  (hs:b.eval s=u) (hx:b.eval x=y) (hr:(Builtin.append_ #[T,T] o.type #[u,y]).run P W=.ok v W') (hn:next v W'):loudUpon P next ((execOp b.eval o).run P W):=by
 refine qQ (v:=v) (W':=W') ?_ hn;unfold execOp;simp only[ho,resolve,invoke,builtin,yG,yH,yz,Yt,yM,Yh,hs,hx,hr]
theorem dE {o:Oper} {x:Operand} {b:Act} {W:World} {next:Value->World->Prop} (ho:o.op=.assign x) (hn:next (b.eval x) W):loudUpon P next ((execOp b.eval o).run P W):=by
 refine qQ (v:=b.eval x) (W':=W) ?_ hn;unfold execOp;simp only[ho,yH]
theorem addr_add (g k j:Nat):(⟨g,k,none⟩:Addr).add j=⟨g,k+j,none⟩:=by unfold Addr.add;split <;> simp_all
theorem re (g k cap s:Nat):sliced (some ⟨g,0,none⟩) 0 k cap s=.slice (some ⟨g,0,none⟩) k cap:=by
 unfold sliced;simp[addr_add]
theorem rl {g k n cap s:Nat} (hk:k<=n) (hn:n<=cap):∃ ad c',sliced (some ⟨g,0,none⟩) k n cap s=.slice (some ad) (n-k) c'/\(k<n->ad=⟨g,k*s,none⟩):=by
 unfold sliced;by_cases h:cap=k
 ·exact⟨⟨g,0,none⟩,cap-k,by rw[Yz h],λ hlt=>by omega⟩
 exact⟨⟨g,k*s,none⟩,cap-k,by rw[Yy h];simp[addr_add],λ _=>rfl⟩
theorem iO {o:Oper} {T e:TypeId} {b:Act} {W:World} {s:Nat} {next:Value->World->Prop} (ho:o.op=.buildSlice T 0 #[]) (ht:P.underlying T=some (.slice e)) (hs:(sizeOf e).run P W=.ok s W)
  (hn:next (.slice (some ⟨W.heap.size,0,none⟩) 0 0) (W.alloc (.cells #[] e))):loudUpon P next ((execOp b.eval o).run P W):=by
 refine qQ (v:=.slice (some ⟨W.heap.size,0,none⟩) 0 0) (W':=W.alloc (.cells #[] e)) ?_ hn;unfold execOp;simp[ho,yG,Instr.buildSlice,run_underlying ht,hs,Instr.fill,newRow,Result.andThen];rw[show (Array.range 0).map (λ _=>(default:Value))=#[]from Array.eq_empty_of_size_eq_zero (by simp)]
theorem qV {o:Oper} {T e:TypeId} {b:Act} {W:World} {x:Operand} {u:Value} {ie:TypeInfo} {z:Value} {cells:Array Value} {next:Value->World->Prop} (ho:o.op=.buildSlice T 1 #[(0,x)]) (hx:b.eval x=u)
  (hu:P.underlying T=some (.slice e)) (hie:P.info? e=some ie) (hz:ie.zero=some z) (hsmall:¬ 1*ie.size > 2 ^ 24) (hpos:¬ 1*ie.size=0)
  (h:Instr.fill (λ i=>some (i*ie.size,ie.size)) ((Array.range (1*ie.size)).map (z.cells[· % z.cells.size]!)) [(0,u)]=some cells)
  (hn:next (.slice (some ⟨W.heap.size,0,none⟩) 1 1) (W.alloc (.cells cells e))):loudUpon P next ((execOp b.eval o).run P W):=by
 refine qQ (v:=.slice (some ⟨W.heap.size,0,none⟩) 1 1) (W':=W.alloc (.cells cells e)) ?_ hn;unfold execOp;simp only[ho,yG];rw[run_buildSlice W T e 1 _ cells ie z hu hie hz hsmall hpos (by simpa[hx]using h)];simp only[yz,yH]
end
section
variable {P:Program} {ops:Array Oper}
theorem CV {ro:Option Nat} {id:Nat} {Q:Exit->Act->World->Prop} {a:Act} {w:World} {l:List Oper} (m:Nat) (hm:P.follows .mixedOrders=true) (hB:jqB l.toArray m=true) (hD:noDefer l.toArray=true) (hsz:a.tmps.size=m)
  (J:(Nat->Bool)->(Nat->Value)->World->Prop) (h0:J (λ _=>false) (λ _=>undef) w.drew) (hall:qbM P l.toArray a J 0 l)
  (hdone:∀ (L:Nat->Bool) (vals:Nat->Value) (W:World),(∀ i,i<l.length->L i=true)->J L vals W->Q .normal (putAll l ((List.range l.length).map vals) a) W) :
  (Code.region id l.toArray true).wpIn (FW ro) 0 P Q a w:=by
 subst hsz;have g:=jI hB;have H:l.toArray.size=l.length:=by simp
 have U:∀ (i:Nat) (o:Oper),l.toArray[i]?=some o->∀ c,o.op≠.defer c:=λ i o ho c hc=>by
  have:=Yo.1 hD o (kF ho);simp[hc]at this
 refine wpIn_region_any hm (dP _ _ _ _ ?_);refine gX (ops:=l.toArray) (S:=λ i K=>wpOpIn (FW ro) 0 P l.toArray Q i K) (λ L b W=>∃ (L0:Nat->Bool) (vals:Nat->Value),(∀ i,i<l.toArray.size->L i=L0 i)/\Fill l.toArray a L0 vals b/\J L0 vals W) g.back (λ i K K' a w hk=>wpOpIn_mono hk) ?_ ?_ ?_ l.toArray.size _ a w.drew ⟨λ _=>false,λ _=>undef,λ i _=>qM _ _,Fill.start a (λ _=>undef),h0⟩ (by simp) (br _) (λ j N _ I=>by rw[qM]at I;cases I)
 ·rintro L L' b W hLL ⟨L0,vals,h1,h2,h3⟩;exact⟨L0,vals,λ i hi=>by rw[hLL i hi];exact h1 i hi,h2,h3⟩
 ·rintro L b W i o ⟨L0,vals,h1,h2,h3⟩ hcl hi ho hdeps;have R:i<l.toArray.size:=(ya.1 ho).1;have B:L0 i=false:=by rw[<- h1 i R];exact hi
  have G:∀ j,waits l.toArray i j=true->L0 j=true:=λ j hw=>by
   have:=am (ops:=l.toArray) (L:=L) ho hdeps hw;rw[<- h1 j (by have:=et g hw;omega)];exact this
  have D:∀ j k,j<l.toArray.size->L0 j=true->waits l.toArray j k=true->L0 k=true:=λ j k hj hlj hw=>by
   obtain⟨N,C,e,V,Y,T⟩:=zM hw;rw[<- h1 j hj]at hlj;have:=hcl j N C hlj e V Y;rw[T]at this;rw[<- h1 k (by have:=et g hw;omega)];exact this
  have O:JK l.toArray a i L0 b vals:=⟨λ d hd=>h2.miss d (λ j o hj hjd=>by
   cases I:L0 j with
   | false=>rfl
   | true=>rw[D j i (ya.1 hj).1 I (hd j o hj hjd)]at B;cases B),λ j d N hw C hd=>h2.hit j d N C hd (G j hw) (g.dst j d N C hd)⟩
  have F:=jA l 0 i o hall (by simpa using ho);rw[YM]at F;have I:=F L0 b W vals B G D O h3;have A:∀ v W',J (λ j=>L0 j||j==i) (λ j=>if j=i then v else vals j) W'->∃ (L1:Nat->Bool) (vals1:Nat->Value),(∀ j,j<l.toArray.size->(L j||j==i)=L1 j)/\Fill l.toArray a L1 vals1 (b.put o.dst v)/\J L1 vals1 W':=λ v W' hJ =>
   ⟨_,_,λ j hj=>by rw[h1 j hj],h2.putJ g ho B v,hJ⟩
  unfold wpOpIn;simp only[ho,Region.wanted,g.nogd i o ho,if_true];refine⟨λ _ _=>trivial,?_⟩;rw[Oper.semAt_eq _ _ _ (U i o ho)];revert I
  cases (execOp b.eval o).run P W with
  | halt x w'=>exact λ h=>h.elim
  | ok x w' =>
   cases x <;> simp only[loudUpon,Oper.uponIn] <;> first|exact λ h=>h.elim|exact λ h=>A _ _ h|skip
   case enter f args =>
    refine λ hc=>⟨λ h=>by simp at h,zy.2 (hc.mono λ e w''=>?_)⟩
    cases e with
    | returned v=>exact λ h=>A _ _ h
    | _=>exact λ h=>h.elim
 ·rintro L b W ⟨L0,vals,h1,h2,h3⟩ hL;have M:∀ i,i<l.length->L0 i=true:=λ i hi=>by rw[<- h1 i (by omega)];exact hL i (by omega)
  have X:Fill l.toArray a (λ i=>decide (i<l.toArray.size)) vals b:=h2.congr (λ i hi=>by rw[M i (by omega)];simp;omega) (λ _ _ _=>rfl);have e:=lf X g;rw[H]at e;rw[e];exact hdone L0 vals W M h3
end
attribute [local go_sem] Oper.semAt_some
structure CallJ (k s:Nat) (c:Nat->Option Value) (Pre Post Fin:World->Prop) (L:Nat->Bool) (vals:Nat->Value) (W:World):Prop where
 pure_:∀ i v,c i=some v->L i=true->vals i=v
 pre:L k=false->Pre W
 post:L k=true->L s=false->Post W
 fin:L s=true->Fin W
section
variable {k s:Nat} {c:Nat->Option Value} {Pre Post Fin:World->Prop} {L:Nat->Bool} {vals:Nat->Value} {W W':World}
theorem CallJ.start (h:Pre W) (v:Nat->Value):CallJ k s c Pre Post Fin (λ _=>false) v W:=⟨λ _ _ _ h=>by simp at h,λ _=>h,λ h=>by simp at h,λ h=>by simp at h⟩
theorem CallJ.other (h:CallJ k s c Pre Post Fin L vals W) {i:Nat} {v:Value} (hi:i≠k/\i≠s) (hv:c i=some v):CallJ k s c Pre Post Fin (λ j=>L j||j==i) (λ j=>if j=i then v else vals j) W:=by
 have B:(k==i)=false:=by simp only[Ys,ne_eq];exact Ne.symm hi.1
 have A:(s==i)=false:=by simp only[Ys,ne_eq];exact Ne.symm hi.2
 refine⟨λ j u hj hl=>?_,λ hl=>h.pre (by simpa[B]using hl),λ hl hs=>h.post (by simpa[B]using hl) (by simpa[A]using hs),λ hs=>h.fin (by simpa[A]using hs)⟩;by_cases e:j=i
 ·subst e;rw[Yz rfl];rw[hv]at hj;exact YX hj
 rw[Yy e];exact h.pure_ j u hj (by simpa[e]using hl)
theorem CallJ.call (h:CallJ k s c Pre Post Fin L vals W) (hks:k≠s) (hs:L s=false) {v:Value} (hv:c k=some v) (hp:Post W'):CallJ k s c Pre Post Fin (λ j=>L j||j==k) (λ j=>if j=k then v else vals j) W':=by
 have A:(s==k)=false:=by simp only[Ys,ne_eq];exact Ne.symm hks
 refine⟨λ j u hj hl=>?_,λ hl=>by simp at hl,λ _ _=>hp,λ hl=>by simp[A,hs]at hl⟩;by_cases e:j=k
 ·subst e;rw[Yz rfl];rw[hv]at hj;exact YX hj
 rw[Yy e];exact h.pure_ j u hj (by simpa[e]using hl)
theorem CallJ.store (h:CallJ k s c Pre Post Fin L vals W) (hk:L k=true) (hv:c s=none) (hf:Fin W'):CallJ k s c Pre Post Fin (λ j=>L j||j==s) (λ j=>if j=s then undef else vals j) W':=by
 refine⟨λ j u hj hl=>?_,λ hl=>by simp[hk]at hl,λ _ hl=>by simp at hl,λ _=>hf⟩;by_cases e:j=s
 ·subst e;rw[hv]at hj;cases hj
 rw[Yy e];exact h.pure_ j u hj (by simpa[e]using hl)
end
section
variable {P:Program}
theorem By {next:Value->World->Prop} {o:Oper} {x y:Operand} {T T2:TypeId} (hop:o.op=.binOp .add T x y T2) {b:Act} {W:World} {m n:Int} (hx:b.eval x=.int .i64 m) (hy:b.eval y=.int .i64 n) (hr:IntKind.i64.wrap (m+n)=m+n)
  (hn:next (.int .i64 (m+n)) W):loudUpon P next ((execOp b.eval o).run P W):=by
 refine qQ (W':=W) (v:=.int .i64 (m+n)) ?_ hn;unfold execOp;simp only[hop,hx,hy];simp[go_sem,hr]
theorem dS {next:Value->World->Prop} {o:Oper} {p u:Operand} {T:TypeId} (hop:o.op=.store T p u) {b:Act} {W W':World} {q:Addr} {v:Value} (hp:b.eval p=.pointer (some q)) (hu:b.eval u=v)
  (hrun:(Instr.storeAt T (.pointer (some q)) v).run P W=.ok () W') (hn:next undef W'):loudUpon P next ((execOp b.eval o).run P W):=by
 refine oK (W':=W') ?_ hn;unfold execOp;simp only[hop,hp,hu,yG,hrun,yz,yH]
end
structure ChainJ (ks:List Nat) (c:Nat->Option Value) (St:Nat->(Nat->Value)->World->Prop) (L:Nat->Bool) (vals:Nat->Value) (W:World):Prop where
 pure_:∀ i v,c i=some v->L i=true->vals i=v
 chain:∃ n,n<=ks.length/\(∀ (i k:Nat),ks[i]?=some k->(L k=true↔i<n))/\St n vals W
section
variable {ks:List Nat} {c:Nat->Option Value} {St:Nat->(Nat->Value)->World->Prop} {L:Nat->Bool} {vals:Nat->Value} {W W':World}
theorem ChainJ.start (h:∀ v,St 0 v W) (v:Nat->Value):ChainJ ks c St (λ _=>false) v W:=⟨λ _ _ _ h=>by simp at h,0,YB _,λ _ _ _=>by simp,h v⟩
theorem ChainJ.other (h:ChainJ ks c St L vals W) (hSt:∀ n v v' W,(∀ i∈ks,v i=v' i)->St n v W->St n v' W) {i:Nat} {v:Value} (hi:i∉ks) (hv:c i=some v):ChainJ ks c St (λ j=>L j||j==i) (λ j=>if j=i then v else vals j) W:=by
 obtain⟨B,n,A,C,D⟩:=h;refine⟨λ j u hj hl=>?_,n,A,λ j k hk=>?_,hSt n vals _ W (λ j hj=>(Yy (λ (e:j=i)=>hi (e▸hj))).symm) D⟩
 ·by_cases e:j=i
  ·subst e;rw[Yz rfl];rw[hv]at hj;exact YX hj
  rw[Yy e];exact B j u hj (by simpa[e]using hl)
 have:(k==i)=false:=by simp only[Ys,ne_eq];exact λ e=>hi (e▸yg hk)
 rw[this,Bool.or_false];exact C j k hk
theorem ChainJ.at_ (h:ChainJ ks c St L vals W) (n:Nat) (h1:∀ k,0<n->ks[n-1]?=some k->L k=true) (h0:n<=ks.length) (h2:∀ k,ks[n]?=some k->L k=false):St n vals W:=by
 obtain⟨_,m,I,B,G⟩:=h;have H:n<=m:=by
  rcases Nat.eq_zero_or_pos n with h|h
  ·omega
  obtain⟨k,A⟩:∃ k,ks[n-1]?=some k:=⟨_,yb (by omega)⟩;have:=(B _ k A).1 (h1 k h A);omega
 have D:m<=n:=by
  by_cases hl:n<ks.length
  ·obtain⟨k,A⟩:∃ k,ks[n]?=some k:=⟨_,yb hl⟩;have F:=h2 k A;have C:=B n k A;rw[F]at C;simp at C;omega
  omega
 obtain rfl:n=m:=by omega
 exact G
theorem ChainJ.step (h:ChainJ ks c St L vals W) (hn:ks.Nodup) (hc:∀ k∈ks,c k=none) {n k:Nat} (hk:ks[n]?=some k) (h1:∀ j,0<n->ks[n-1]?=some j->L j=true) (h2:L k=false) {v:Value}
  (hs:St n vals W->St (n+1) (λ j=>if j=k then v else vals j) W'):ChainJ ks c St (λ j=>L j||j==k) (λ j=>if j=k then v else vals j) W':=by
 have H:=(yc.1 hk).1;have C:=h.at_ n h1 (by omega) (λ k' hk'=>by rw[hk]at hk';cases hk';exact h2);obtain⟨J,m,P,B,O⟩:=h;have D:m=n:=by
  have G:=B n k hk;rw[h2]at G;simp at G;rcases Nat.eq_zero_or_pos n with h|h
  ·omega
  obtain⟨j,A⟩:∃ j,ks[n-1]?=some j:=⟨_,yb (by omega)⟩;have:=(B _ j A).1 (h1 j h A);omega
 subst D;refine⟨λ j u A hl=>?_,m+1,by omega,λ j k' hk'=>?_,hs C⟩
 ·by_cases e:j=k
  ·subst e;rw[hc j (yg hk)]at A;cases A
  rw[Yy e];exact J j u A (by simpa[e]using hl)
 ·by_cases e:k'=k
  ·subst e;have A:j=m:=by
    obtain⟨M,K⟩:=yc.1 hk;obtain⟨N,I⟩:=yc.1 hk';exact(List.getElem_inj hn).1 (I.trans K.symm)
   subst A;simp
  have:(k'==k)=false:=by simp only[Ys,ne_eq];exact e
  rw[this,Bool.or_false,B j k' hk'];constructor
  ·omega
  intro F;rcases kg j m with h|h
  ·exact h
  obtain rfl:j=m:=by omega
  rw[hk]at hk';cases hk';exact kV rfl e
end
section
variable {P:Program}
theorem lM {next:Value->World->Prop} {o:Oper} {x:Operand} (hop:o.op=.nilCheck x) {b:Act} {W:World} {q:Addr} (hx:b.eval x=.pointer (some q)) (hn:next (.pointer (some q)) W):loudUpon P next ((execOp b.eval o).run P W):=by
 refine qQ (W':=W) (v:=.pointer (some q)) ?_ hn;unfold execOp;simp only[hop,hx];simp[go_sem]
theorem tP {next:Value->World->Prop} {o:Oper} {x:Operand} (hop:o.op=.assign x) {b:Act} {W:World} (hn:next (b.eval x) W):loudUpon P next ((execOp b.eval o).run P W) :=
 qQ (W':=W) (v:=b.eval x) (by unfold execOp;simp only[hop,yH]) hn
end
section
variable {ka kb:List Nat} {c:Nat->Option Value} {St:Nat->Nat->(Nat->Value)->World->Prop} {L:Nat->Bool} {vals:Nat->Value} {W W':World}
end
theorem qD {rec:List Pc->Nat × List (List Pc)} {B:Nat} (hr:∀ c,(rec c).1<=B):∀ {cs:List (List Pc)} {n:Nat} {l:List (List Pc)},n<=20000->(loopT rec cs n l).1<=20000+B
 | [],n,l,h=>by simp only[loopT];omega
 | c :: cs,n,l,h=>by
  have:=hr c;unfold loopT;split
  ·simp only;omega
  exact qD hr (by omega)
theorem gI (t:Tk):∀ (f:Nat) (s:List Pc),(searchT t f s).1<=20000*f+1
 | 0,s=>by simp[searchT]
 | f+1,s=>by
  unfold searchT;split
  ·simp only;omega
  have:=qD (rec:=searchT t f) (gI t f) (cs:=qB t s) (n:=1) (l:=[]) (by omega);omega
theorem filter_lt {α:Type} {P R:α->Bool}:∀ {l:List α} {q:α},(∀ x∈l,P x=true->R x=true)->q∈l->R q=true->P q=false->(l.filter P).length<(l.filter R).length
 | a :: l,q,h,hq,h1,h2=>by
  have hle:(l.filter P).length<=(l.filter R).length:=by
   have:∀ (l:List α),(∀ x∈l,P x=true->R x=true)->(l.filter P).length<=(l.filter R).length:=by
    intro l
    induction l with
    | nil=>intro _;simp
    | cons b l ih =>
     intro A;have:=ih λ x hx=>A x (Ym _ hx);simp only[kB];by_cases hb:P b=true
     ·rw[Yz hb,Yz (A b (by simp) hb)];simp;omega
     rw[Yy hb];split
     ·simp;omega
     exact this
   exact this l λ x hx=>h x (Ym _ hx)
  simp only[kB];rcases Yd.1 hq with rfl|hq
  ·rw[Yy (by simp[h2]),Yz h1];simp;omega
  have:=filter_lt (λ x hx=>h x (Ym _ hx)) hq h1 h2;by_cases ha:P a=true
  ·rw[Yz ha,Yz (h a (by simp) ha)];simp;omega
  rw[Yy ha];split
  ·simp;omega
  exact this
theorem DE {t:Tk} {s c:List Pc} (h:c∈qB t s):leftT t c<leftT t s:=by
 obtain⟨p,q,I,F,H,A⟩:=cb h;obtain⟨C,D⟩:=gL F;obtain⟨rfl,_⟩:=bn A;unfold leftT;refine filter_lt (q:=q) (λ x _ hx=>?_) C (by simp[D]) (by
  have:covT (s++[p]) q=true:=aX.2 ⟨p,by simp,H⟩;simp[this])
 cases hc:covT s x with
 | false=>rfl
 | true =>
  obtain⟨r,G,B⟩:=aX.1 hc;have:covT (s++[p]) x=true:=aX.2 ⟨r,by simp[G],B⟩;simp[this]at hx
theorem si {t:Tk} {s:List Pc} (h:fullT t s=false):0<leftT t s:=by
 obtain⟨q,hq⟩:=mH h;obtain⟨h1,h2⟩:=gL hq;exact List.length_pos_of_mem (YZ.2 ⟨h1,by simp[h2]⟩)
theorem fO {rec:List Pc->Nat × List (List Pc)} {cs:List (List Pc)} {k n:Nat} {l:List (List Pc)} {c:List Pc} (h:cs[k]?=some c) :
  loopT rec (cs.drop k) n l=if 20000<n+(rec c).1 then(n+(rec c).1,l++(rec c).2)else loopT rec (cs.drop (k+1)) (n+(rec c).1) (l++(rec c).2):=by
 obtain⟨B,A⟩:=yc.1 h;rw[YG B,A,loopT]
theorem rX {t:Tk} {s:List Pc} {q:Q} (h:freeT t s=some q):qB t s=(piecesT t).flatten.filterMap λ p=>if q∈p.qs then putT t s p else none:=by
 unfold qB;rw[h];simp only
 induction (piecesT t).flatten with
 | nil=>rfl
 | cons a l ih =>
  simp only[kB,kS];by_cases ha:q∈a.qs
  ·simp only[ha,decide_true,if_true,kS];split <;> simp_all
  simp only[ha,decide_false,if_false];simpa using ih
