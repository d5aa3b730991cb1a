/- Plain: bricks sorted by their least quarter; when a state is full, and when it has the right counts. -/
import Derived.Test.YtiinlplgloaanaaGreatDoorZzLayerOver32
import Derived.Great.BuildSlice
set_option linter.all false
set_option maxRecDepth 100000
namespace Go.Proofs.YtiinlplgloaanaaGreatDoor
open Go.Proofs.Tryz Go.RowKit
def SubW (w:World):Type:={ W:World // Bw w W }
instance (w:World):Nonempty (SubW w):=⟨⟨w,yf _ _⟩⟩
section
variable {P:Program}
theorem zg {id:Nat} {Q:Exit->Act->World->Prop} {a:Act} {w:World} {l:List Oper} (n:Nat) (hm:P.follows .mixedOrders=true) (hB:qtB l.toArray n=true)
  (h:wpQuiet P l.toArray (λ w'=>∃ d:SubW w,w'=d.1) (λ a'=>∀ d:SubW w,wpList P l.toArray Q (l.drop n) a' d.1) (l.take n) a):(Code.region id l.toArray true).wp P Q a w:=by
 refine zbD n hm hB (λ w'=>∃ d:SubW w,w'=d.1) ⟨⟨w.drew,Joins.below_draws _ w 1⟩,rfl⟩ ?_;have e:(λ a'=>∀ d:SubW w,wpList P l.toArray Q (l.drop n) a' d.1)=(λ a'=>∀ w',(∃ d:SubW w,w'=d.1)->wpList P l.toArray Q (l.drop n) a' w'):=by
  funext a';apply propext
  exact⟨λ h w' ⟨n,e⟩=>e▸h n,λ h nq=>h _ ⟨nq,rfl⟩⟩
 rwa [e]at h
theorem qaa {ro:Option Nat} {id:Nat} {Q:Exit->Act->World->Prop} {a:Act} {w:World} {l:List Oper} (n:Nat) (hm:P.follows .mixedOrders=true) (hB:qtB l.toArray n=true) (hD:noDefer l.toArray=true)
  (h:wpQuiet P l.toArray (λ w'=>∃ d:SubW w,w'=d.1) (λ a'=>∀ d:SubW w,wpListIn (FW ro) 0 P l.toArray Q (l.drop n) a' d.1) (l.take n) a):(Code.region id l.toArray true).wpIn (FW ro) 0 P Q a w:=by
 refine zbZ n hm hB hD (λ w'=>∃ d:SubW w,w'=d.1) ⟨⟨w.drew,Joins.below_draws _ w 1⟩,rfl⟩ ?_;have e:(λ a'=>∀ d:SubW w,wpListIn (FW ro) 0 P l.toArray Q (l.drop n) a' d.1)=(λ a'=>∀ w',(∃ d:SubW w,w'=d.1)->wpListIn (FW ro) 0 P l.toArray Q (l.drop n) a' w'):=by
  funext a';apply propext
  exact⟨λ h w' ⟨n,e⟩=>e▸h n,λ h nq=>h _ ⟨nq,rfl⟩⟩
 rwa [e]at h
end
theorem SubW.block {w:World} (d:SubW w) {b:Nat} {o:Obj} (h:w.heap[b]?=some o):d.1.heap[b]?=some o:=(d.2.block b (ya.1 h).1).trans h
structure HP where
 ld:Ld
 set:Nat
 bord:W3
def ldVals (l:Ld):List Value:=[.int .i64 l.kind,.bool l.m,.int .i64 l.t,.int .i64 l.x,.int .i64 l.y]
def hpVals (p:HP):List Value:=[.int .i64 p.ld.kind,.bool p.ld.m,.int .i64 p.ld.t,.int .i64 p.ld.x,.int .i64 p.ld.y,.int .u64 p.set,.int .u64 p.bord.1,.int .u64 p.bord.2.1,.int .u64 p.bord.2.2]
def RI:REnc Int:=⟨3,1,λ n=>[.int .i64 n],λ _=>rfl,λ n u h=>by simp at h;subst h;rfl⟩
def RL:REnc Ld:=⟨50,5,ldVals,λ _=>rfl,λ l u h=>by simp[ldVals]at h;rcases h with rfl|rfl|rfl|rfl|rfl <;> rfl⟩
def RP:REnc HP:=⟨152,9,hpVals,λ _=>rfl,λ l u h=>by simp[hpVals]at h;rcases h with rfl|rfl|rfl|rfl|rfl|rfl|rfl|rfl|rfl <;> rfl⟩
def RE:REnc E:=⟨61,3,eVals,λ _=>rfl,qbl⟩
structure HS where
 lp:Option Addr
 ln:Nat
 lc:Nat
 set:Nat
 bord:W3
 joint:W3
 many:Nat->Nat
def HS.laid (s:HS):Value:=.slice s.lp s.ln s.lc
def hsVals (s:HS):List Value:=[.slice s.lp s.ln s.lc,.int .u64 s.set,.int .u64 s.bord.1,.int .u64 s.bord.2.1,.int .u64 s.bord.2.2,.int .u64 s.joint.1,.int .u64 s.joint.2.1,.int .u64 s.joint.2.2,
 .int .i64 (s.many 0),.int .i64 (s.many 1),.int .i64 (s.many 2),.int .i64 (s.many 3),.int .i64 (s.many 4),.int .i64 (s.many 5),.int .i64 (s.many 6),.int .i64 (s.many 7)]
def RS:REnc HS:=⟨108,16,hsVals,λ _=>rfl,λ l u h=>by simp[hsVals]at h;rcases h with rfl|rfl|rfl|rfl|rfl|rfl|rfl|rfl|rfl|rfl|rfl|rfl|rfl|rfl|rfl|rfl <;> rfl⟩
theorem sizeS:(Tryz.prog.info? 108).map (·.size)=some 16:=by kernel_rfl
theorem sizeP:(Tryz.prog.info? 152).map (·.size)=some 9:=by kernel_rfl
theorem sizeL:(Tryz.prog.info? 50).map (·.size)=some 5:=by kernel_rfl
structure PPAt (W:World) (a:Addr) (vs:List Value) (ps:List (List HP)):Prop where
 lt:ps≠[]->a.block<W.heap.size
 len:vs.length=ps.length
 at_:∀ (i:Nat) (l:List HP) (v:Value),ps[i]?=some l->vs[i]?=some v->W.cell? (a.add i)=some v/\RP.Has W v l
def HasPP (W:World) (v:Value) (vs:List Value) (ps:List (List HP)):Prop :=
 (v=.slice none 0 0/\ps=[])\/∃ (a:Addr) (cap:Nat),v=.slice (some a) ps.length cap/\ps.length<=cap/\cap<=maxLen/\PPAt W a vs ps
theorem HasPP.below {W W':World} {v:Value} {vs:List Value} {ps:List (List HP)} (h:HasPP W v vs ps) (e:Bw W W'):HasPP W' v vs ps:=by
 rcases h with h|⟨a,cap,h1,h2,h3,h4⟩
 ·exact .inl h
 refine .inr ⟨a,cap,h1,h2,h3,λ hp=>yO (h4.lt hp) e.size,h4.len,λ i l u hi hv=>?_⟩;obtain⟨hu,hl⟩:=h4.at_ i l u hi hv;refine⟨?_,hl.below e⟩;rw[cell_of_block (W:=W) (W':=W') (by rw[block_add];exact e.block _ (h4.lt (by rintro rfl;simp at hi)))];exact hu
theorem HasPP.slice {W:World} {v:Value} {vs:List Value} {ps:List (List HP)} (h:HasPP W v vs ps):∃ p c,v=.slice p ps.length c:=by
 rcases h with⟨rfl,rfl⟩|⟨a,c,rfl,_⟩
 ·exact⟨_,_,rfl⟩
 exact⟨_,_,rfl⟩
theorem HasPP.get {W:World} {p:Option Addr} {n c:Nat} {vs:List Value} {ps:List (List HP)} (h:HasPP W (.slice p n c) vs ps) {i:Nat} {l:List HP} (hi:ps[i]?=some l):∃ a v,p=some a/\n=ps.length/\vs[i]?=some v/\W.cell? (a.add i)=some v/\RP.Has W v l:=by
 rcases h with⟨_,h⟩|⟨a,cap,h1,_,_,h4⟩
 ·subst h;simp at hi
 simp only[yC]at h1;have hl:=(yc.1 hi).1;have hl':i<vs.length:=by rw[h4.len];exact hl
 have hv:vs[i]?=some vs[i]:=yb hl';exact⟨a,_,h1.1,h1.2.1,hv,h4.at_ i l _ hi hv⟩
structure BV where
 g:Value
 k:Value
 c:Value
 f:Value
 b:Value
 qm:Nat
 em:Nat
 pv:Value
 pvs:List Value
def numQ (g:List Q):List (Q × Value):=g.zipIdx.map λ x=>(x.1,.int .i64 x.2)
def numE (L:List E):List (E × Value):=L.zipIdx.map λ x=>(x.1,.int .i64 x.2)
def flatV:Value->Prop
 | .slice (some a) _ _=>a.spot=none
 | _=>True
structure BdAt (W:World) (bb:Nat) (v:BV) (t:Tk) (L:List E) (ps:List (List HP)) (bel:W3):Prop where
 blk:W.heap[bb]?=some (.cells #[v.g,v.k,v.c,v.f,v.b,.map (some v.qm),.map (some v.em),v.pv,.int .u64 bel.1,.int .u64 bel.2.1,.int .u64 bel.2.2,.int .u64 (2 ^ t.ground.length-1:Nat)] 150 (0,0))
 ground:HasQ W v.g t.ground
 kinds:HasQQ W v.k t.kinds
 counts:RI.Has W v.c t.counts
 fixed:RL.Has W v.f t.fixed
 below:∃ js,RE.Has W v.b js
 quarter:HasM Q.val W v.qm (numQ t.ground)
 edge:HasM E.val W v.em (numE L)
 pieces:HasPP W v.pv v.pvs ps
 cflat:flatV v.c
theorem BdAt.keep {W W':World} {bb:Nat} {v:BV} {t:Tk} {L:List E} {ps:List (List HP)} {bel:W3} (h:BdAt W bb v t L ps bel) (e:Bw W W'):BdAt W' bb v t L ps bel :=
 ⟨(e.block _ (ya.1 h.blk).1).trans h.blk,h.ground.below e,h.kinds.below e,h.counts.below e,h.fixed.below e,h.below.imp λ _ hj=>hj.below e,h.quarter.below e,h.edge.below e,h.pieces.below e,h.cflat⟩
def canPut (s:HS) (p:HP) (c:Int) (bel:W3):Prop:=s.set &&& p.set=0/\(s.many p.ld.kind.toNat:Int)<c/\andW (andW s.bord p.bord) bel=(0,0,0)
def hpT (g:List Q) (L:List E) (p:Pc):HP:=⟨p.ld,setG (λ q=>decide (q∈p.qs)) g,wordsE (λ e=>decide (e∈borderE p.qs)) L⟩
def jointT (s:List Pc) (e:E):Bool:=decide (2<=(s.filter λ p=>decide (e∈borderE p.qs)).length)
structure StT (g:List Q) (L:List E) (s:List Pc) (S:HS):Prop where
 set:S.set=setG (covT s) g
 bord:S.bord=wordsE (bordT s) L
 joint:S.joint=wordsE (jointT s) L
 many:∀ k:Nat,S.many k=manyT s (k:Int)
theorem zd4 (P R:E->Bool) (L:List E):orW (wordsE P L) (wordsE R L)=wordsE (λ e=>P e||R e) L:=by
 unfold orW wordsE;simp only[qcJ]
theorem qa5 (P R:E->Bool) (L:List E):andW (wordsE P L) (wordsE R L)=wordsE (λ e=>P e&&R e) L:=by
 unfold andW wordsE;simp only[qdc]
theorem qga (s:List Pc) (p:Pc) (q:Q):covT (s++[p]) q=(covT s q||decide (q∈p.qs)):=by simp[covT]
theorem qf5 (s:List Pc) (p:Pc) (e:E):bordT (s++[p]) e=(bordT s e||decide (e∈borderE p.qs)):=by simp[bordT]
theorem zdo (s:List Pc) (p:Pc) (k:Int):manyT (s++[p]) k=manyT s k+(if p.ld.kind=k then 1 else 0):=by
 unfold manyT;rw[List.filter_append,yL];congr 1;by_cases h:p.ld.kind=k <;> simp[h]
theorem zgR {s:List Pc} {e:E}:bordT s e=true↔1<=(s.filter λ p=>decide (e∈borderE p.qs)).length:=by
 unfold bordT;rw[List.any_eq_true];constructor
 ·rintro⟨p,h1,h2⟩;exact List.length_pos_of_mem (List.mem_filter.2 ⟨h1,h2⟩)
 intro h;obtain⟨p,hp⟩:=List.exists_mem_of_length_pos h;exact⟨p,(List.mem_filter.1 hp).1,(List.mem_filter.1 hp).2⟩
theorem qcU (s:List Pc) (p:Pc) (e:E):jointT (s++[p]) e=(jointT s e||(bordT s e&&decide (e∈borderE p.qs))):=by
 have hb:=zgR (s:=s) (e:=e);unfold jointT;rw[List.filter_append,yL];by_cases h:e∈borderE p.qs
 ·simp only[List.filter_cons,h,decide_true,if_true,List.filter_nil,yA,yN,Bool.and_true];rw[Bool.eq_iff_iff,Bool.or_eq_true,yS,yS,hb];omega
 simp only[List.filter_cons,h,decide_false,List.filter_nil,yN,Bool.and_false,Bool.or_false,Nat.add_zero];simp
theorem qh3 {t:Tk} {L:List E} {s:List Pc} {S:HS} {p:Pc} {k:Nat} {c:Int} (h:StT t.ground L s S) (hp:∀ q∈p.qs,q∈t.ground) (hL:∀ e∈borderE p.qs,e∈L) (h192:L.length<=192)
  (hk:p.ld.kind=k) (hc:t.counts[k]?=some c):canPut S (hpT t.ground L p) c (wordsE (λ e=>decide (e∈t.below)) L)↔putT t s p=some (s++[p]):=by
 have h1:S.set &&& (hpT t.ground L p).set=0↔∀ q∈p.qs,covT s q=false:=by
  rw[h.set,hpT];simp only;rw[qdc,qbP];constructor
  ·intro hh q hq;have:=hh q (hp q hq);simpa[hq]using this
  intro hh q _;by_cases hq:q∈p.qs
  ·simp[hh q hq]
  simp[hq]
 have h2:t.counts.getD p.ld.kind.toNat 0=c:=by rw[hk];simp[yu,hc]
 have h3:andW (andW S.bord (hpT t.ground L p).bord) (wordsE (λ e=>decide (e∈t.below)) L)=(0,0,0)↔clashT t.below s p=false:=by
  rw[h.bord,hpT];simp only;rw[qa5,qa5,qbf h192];unfold clashT;rw[List.any_eq_false];constructor
  ·intro hh e he hb;have:=hh e (hL e he);simp only[Yr,yS]at hb;simp[he,hb.1,hb.2]at this
  intro hh e _;by_cases he:e∈borderE p.qs
  ·have:=hh e he;simpa[he]using this
  simp[he]
 have h4:(S.many (hpT t.ground L p).ld.kind.toNat:Int)=manyT s p.ld.kind:=by rw[h.many];simp[hpT,hk]
 unfold canPut;rw[h1,h3,h4];constructor
 ·rintro⟨a,b,d⟩;exact zh7 a (by rw[h2];exact b) d
 ·intro hh;obtain⟨_,a,b,d⟩:=zaW hh;exact⟨a,by rw[h2]at b;exact b,d⟩
theorem qeC {t:Tk} {s:List Pc} {p:Pc} (h:¬ putT t s p=some (s++[p])):putT t s p=none:=by
 unfold putT at *;split
 ·rfl
 rename_i hn;rw[Yz hn]at h;exact absurd rfl h
theorem st_snoc {g:List Q} {L:List E} {s:List Pc} {S S':HS} {p:Pc} {k:Nat} (h:StT g L s S) (hk:p.ld.kind=k) (h1:S'.set=S.set ||| (hpT g L p).set) (h2:S'.bord=orW S.bord (hpT g L p).bord)
  (h3:S'.joint=orW S.joint (andW S.bord (hpT g L p).bord)) (h4:S'.many=(λ j=>if j=k then S.many k+1 else S.many j)):StT g L (s++[p]) S':=by
 refine⟨?_,?_,?_,λ j=>?_⟩
 ·rw[h1,h.set,hpT];simp only;rw[qcJ];exact qaB λ q _=>(qga s p q).symm
 ·rw[h2,h.bord,hpT];simp only;rw[zd4];exact qan λ e _=>(qf5 s p e).symm
 ·rw[h3,h.joint,h.bord,hpT];simp only;rw[qa5,zd4];exact qan λ e _=>(qcU s p e).symm
 ·rw[h4,zdo,hk];simp only;by_cases hj:j=k
  ·subst hj;rw[YA rfl,YA rfl,h.many]
  rw[Yz hj,Yz (by omega),h.many,Nat.add_zero]
theorem qj {W W':World} {base:Nat} {e:TypeId} {size:Nat} {v:Value} {n:Nat} {xs:List Value} (h:W.ownsRow base e size v n xs) (hk:∀ k,v.ownBlock=some k->W'.heap[k]?=W.heap[k]?):W'.ownsRow base e size v n xs :=
 ⟨h.1,h.2.elim .inl λ ⟨g,cap,cur,h1,h2,h3,h4⟩=>.inr ⟨g,cap,cur,h1,h2,(hk g (by rw[h1];rfl)).trans h3,h4⟩⟩
theorem qg {W:World} {base:Nat} {e:TypeId} {size:Nat} {v:Value} {n:Nat} {xs:List Value} (h:W.ownsRow base e size v n xs) {k:Nat} (hk:v.ownBlock=some k):base<=k/\k<W.heap.size/\∃ cur,W.heap[k]?=some (.cells cur e (0,0)):=by
 rcases h.2 with⟨rfl,_⟩|⟨g,cap,cur,rfl,h2,h3,_⟩
 ·cases hk
 cases hk
 exact⟨h2,(ya.1 h3).1,cur,h3⟩
attribute [local go_sem] Oper.semAt_some
instance :Inhabited HP:=⟨⟨⟨0,false,0,0,0⟩,0,(0,0,0)⟩⟩
def leastH (p:HP):Nat:=Lib.ctz 64 p.set
def cmpP (p q:HP):Int:=cmpI (leastH p) (leastH q)
theorem za8 {p q:HP}:cmpP p q<0↔leastH p<leastH q:=by
 unfold cmpP cmpI;split
 ·rename_i h;constructor <;> intro _ <;> omega
 split <;> constructor <;> intro _ <;> omega
theorem zcD:Sort.SWO (ltOf cmpP) where
 irrefl x:=yv (λ h=>Nat.lt_irrefl _ (za8.1 h))
 trans x y z h1 h2:=yw (za8.2 (Nat.lt_trans (za8.1 (of_decide_eq_true h1)) (za8.1 (of_decide_eq_true h2))))
 ntrans x y z h1 h2:=by
  have h1:=of_decide_eq_false h1;have h2:=of_decide_eq_false h2;refine yv (λ h=>?_);have h:=za8.1 h;rw[za8]at h1 h2;omega
theorem zdS {α:Type} [Inhabited α] (R:REnc α) (d:Array α) (j:Nat) (hn:0<R.n) (hj:j<d.size*R.n):∃ e,d.toList[j / R.n]?=some e/\(Sort.flatK R.vals R.n d)[j]! =((R.vals e)[j % R.n]?).getD default:=by
 have h1:j / R.n<d.size:=by rw[Nat.div_lt_iff_lt_mul hn];exact hj
 refine⟨d[j / R.n],by simp[h1],?_⟩;rw[Sort.get_flatK _ _ _ _ hj,getElem!_pos d (j / R.n) h1];exact List.getElem!_eq_getElem?_getD ..
theorem zdu {α:Type} (R:REnc α) {l:List α} {j:Nat} {e:α} (hn:0<R.n) (h:l[j / R.n]?=some e):(R.cells l)[j]?=some (((R.vals e)[j % R.n]?).getD default):=by
 have hm:=Nat.mod_lt j hn;have:=R.cells_get h (j % R.n) hm;rw[Nat.mul_comm,Nat.div_add_mod]at this;rw[this];have hl:j % R.n<(R.vals e).length:=by rw[R.len];exact hm
 simp[hl]
def SubG (w:World):Type:={ W:World // Grew w W }
instance (w:World):Nonempty (SubG w):=⟨⟨w,Grew.refl w⟩⟩
theorem zer {P:Program} {id:Nat} {Q:Exit->Act->World->Prop} {a:Act} {w:World} {l:List Oper} (n:Nat) (hm:P.follows .mixedOrders=true) (hB:qtB l.toArray n=true)
  (h:wpQuiet P l.toArray (λ w'=>∃ d:SubG w,w'=d.1) (λ a'=>∀ d:SubG w,wpList P l.toArray Q (l.drop n) a' d.1) (l.take n) a):(Code.region id l.toArray true).wp P Q a w:=by
 refine zbD n hm hB (λ w'=>∃ d:SubG w,w'=d.1) ⟨⟨w.drew,(Grew.refl w).drew⟩,rfl⟩ ?_;have e:(λ a'=>∀ d:SubG w,wpList P l.toArray Q (l.drop n) a' d.1)=(λ a'=>∀ w',(∃ d:SubG w,w'=d.1)->wpList P l.toArray Q (l.drop n) a' w'):=by
  funext a';apply propext
  exact⟨λ h w' ⟨n,e⟩=>e▸h n,λ h nq=>h _ ⟨nq,rfl⟩⟩
 rwa [e]at h
theorem SubG.block {w:World} (d:SubG w) {b:Nat} {o:Obj} (h:w.heap[b]?=some o):d.1.heap[b]?=some o:=(d.2.below.block b (ya.1 h).1).trans h
def TbAt (w:World):Prop:=TabAt 1 Lib.deBruijn64tab w
theorem TbAt.lt {w:World} (h:TbAt w):1<w.heap.size:=by
 have:=h 0 (by decide);unfold World.cell? at this
 cases hh:w.heap[1]? with
 | none=>simp[hh]at this
 | some o=>exact (ya.1 hh).1
theorem TbAt.move {w w':World} (h:TbAt w) (e:w'.heap[1]?=w.heap[1]?):TbAt w':=λ j hj=>(cell_of_block (x:=⟨1,j,none⟩) e).trans (h j hj)
theorem TbAt.below {w w':World} (h:TbAt w) (e:Bw w w'):TbAt w':=h.move (e.block _ h.lt)
theorem zeq (x:Nat) (hx:x<2 ^ 64) (w:World) (hT:TbAt w) :
  Calls Tryz.prog 126 #[.int .u64 x] w λ e w'=>e=.returned (.int .i64 (Lib.ctz 64 x))/\w'=w:=by
 have h:=Any7.bits_TrailingZeros64 Tryz.laysTz x (by omega) w (λ _=>hT);exact h
theorem zcB (p:HP) (hp:p.set<2 ^ 64) (w:World) (hT:TbAt w) :
  Calls Tryz.prog 94 #[RP.val p] w λ e w'=>e=.returned (.int .i64 (leastH p))/\Grew w w':=by
 obtain⟨⟨k,m,tt,x,y⟩,st,q0,q1,q2⟩:=p;have hc:∀ W,Grew w W->Calls Tryz.prog 126 #[.int .u64 st] W λ e w'=>e=.returned (.int .i64 (Lib.ctz 64 st))/\w'=W:=λ W hg=>zeq st hp W (hT.below hg.below);show Calls _ _ #[.agg #[.int .i64 k,.bool m,.int .i64 tt,.int .i64 x,.int .i64 y,.int .u64 st,.int .u64 q0,.int .u64 q1,.int .u64 q2]] _ _;unfold leastH;simp only;generalize Lib.ctz 64 st=n at hc;go_enter func94,ntmps94;go_wp2_with (refine (hc _ (Grew.alloc (Grew.refl w) _)).mono ?_;rintro e w' ⟨rfl,rfl⟩);go_ret;exact⟨rfl,Grew.alloc (Grew.refl w) _⟩
theorem qfn {w:World} (p:HP) (hp:p.set<2 ^ 64) (hT:TbAt w) (d:SubG w) :
  Calls Tryz.prog 94 #[RP.val p] d.1 λ e w'=>e=.returned (.int .i64 (leastH p))/\∃ d':SubG w,w'=d'.1:=by
 refine (zcB p hp d.1 (hT.below d.2.below)).mono ?_;rintro e w' ⟨rfl,hg⟩;exact⟨rfl,⟨⟨w',d.2.trans hg⟩,rfl⟩⟩
theorem qf7 {w:World} (a b:Int) (d:SubG w):Calls Tryz.prog 93 #[.int .i64 a,.int .i64 b] d.1 λ e w'=>e=.returned (.int .i64 (cmpI a b))/\∃ d':SubG w,w'=d'.1:=by
 refine (zaN a b d.1).mono ?_;rintro e w' ⟨rfl,rfl⟩;exact⟨rfl,d,rfl⟩
theorem qeS (p q:HP) (hp:p.set<2 ^ 64) (hq:q.set<2 ^ 64) (w:World) (hT:TbAt w) :
  Calls Tryz.prog 92 #[RP.val p,RP.val q] w λ e w'=>e=.returned (.int .i64 (cmpP p q))/\Grew w w':=by
 obtain⟨⟨k1,m1,t1,x1,y1⟩,s1,a1,b1,c1⟩:=p;obtain⟨⟨k2,m2,t2,x2,y2⟩,s2,a2,b2,c2⟩:=q;have C:TbAt ((w.alloc (.cells #[.int .i64 k1,.bool m1,.int .i64 t1,.int .i64 x1,.int .i64 y1,.int .u64 s1,.int .u64 a1,.int .u64 b1,.int .u64 c1] 152)).alloc (.cells #[.int .i64 k2,.bool m2,.int .i64 t2,.int .i64 x2,.int .i64 y2,.int .u64 s2,.int .u64 a2,.int .u64 b2,.int .u64 c2] 152)):=hT.below (((yf _ w).alloc (ye _) _).alloc (by simp) _);have B:Hid (∀ d:SubG ((w.alloc (.cells #[.int .i64 k1,.bool m1,.int .i64 t1,.int .i64 x1,.int .i64 y1,.int .u64 s1,.int .u64 a1,.int .u64 b1,.int .u64 c1] 152)).alloc (.cells #[.int .i64 k2,.bool m2,.int .i64 t2,.int .i64 x2,.int .i64 y2,.int .u64 s2,.int .u64 a2,.int .u64 b2,.int .u64 c2] 152)),Calls Tryz.prog 94 #[.agg #[.int .i64 k1,.bool m1,.int .i64 t1,.int .i64 x1,.int .i64 y1,.int .u64 s1,.int .u64 a1,.int .u64 b1,.int .u64 c1]] d.1 λ e w'=>e=.returned (.int .i64 (leastH ⟨⟨k1,m1,t1,x1,y1⟩,s1,(a1,b1,c1)⟩))/\∃ d':SubG _,w'=d'.1):=yK λ d=>qfn ⟨⟨k1,m1,t1,x1,y1⟩,s1,(a1,b1,c1)⟩ hp C d;have A:Hid (∀ d:SubG ((w.alloc (.cells #[.int .i64 k1,.bool m1,.int .i64 t1,.int .i64 x1,.int .i64 y1,.int .u64 s1,.int .u64 a1,.int .u64 b1,.int .u64 c1] 152)).alloc (.cells #[.int .i64 k2,.bool m2,.int .i64 t2,.int .i64 x2,.int .i64 y2,.int .u64 s2,.int .u64 a2,.int .u64 b2,.int .u64 c2] 152)),Calls Tryz.prog 94 #[.agg #[.int .i64 k2,.bool m2,.int .i64 t2,.int .i64 x2,.int .i64 y2,.int .u64 s2,.int .u64 a2,.int .u64 b2,.int .u64 c2]] d.1 λ e w'=>e=.returned (.int .i64 (leastH ⟨⟨k2,m2,t2,x2,y2⟩,s2,(a2,b2,c2)⟩))/\∃ d':SubG _,w'=d'.1):=yK λ d=>qfn ⟨⟨k2,m2,t2,x2,y2⟩,s2,(a2,b2,c2)⟩ hq C d;have hA:=(Below.heap_alloc (w.alloc (.cells #[.int .i64 k1,.bool m1,.int .i64 t1,.int .i64 x1,.int .i64 y1,.int .u64 s1,.int .u64 a1,.int .u64 b1,.int .u64 c1] 152)) (.cells #[.int .i64 k2,.bool m2,.int .i64 t2,.int .i64 x2,.int .i64 y2,.int .u64 s2,.int .u64 a2,.int .u64 b2,.int .u64 c2] 152) _ (by simp)).trans (yd w (.cells #[.int .i64 k1,.bool m1,.int .i64 t1,.int .i64 x1,.int .i64 y1,.int .u64 s1,.int .u64 a1,.int .u64 b1,.int .u64 c1] 152));have hB:=zay w (.cells #[.int .i64 k1,.bool m1,.int .i64 t1,.int .i64 x1,.int .i64 y1,.int .u64 s1,.int .u64 a1,.int .u64 b1,.int .u64 c1] 152) (.cells #[.int .i64 k2,.bool m2,.int .i64 t2,.int .i64 x2,.int .i64 y2,.int .u64 s2,.int .u64 a2,.int .u64 b2,.int .u64 c2] 152);have hG:Grew w ((w.alloc (.cells #[.int .i64 k1,.bool m1,.int .i64 t1,.int .i64 x1,.int .i64 y1,.int .u64 s1,.int .u64 a1,.int .u64 b1,.int .u64 c1] 152)).alloc (.cells #[.int .i64 k2,.bool m2,.int .i64 t2,.int .i64 x2,.int .i64 y2,.int .u64 s2,.int .u64 a2,.int .u64 b2,.int .u64 c2] 152)):=((Grew.refl w).alloc _).alloc _;unfold cmpP;show Calls _ _ #[.agg #[.int .i64 k1,.bool m1,.int .i64 t1,.int .i64 x1,.int .i64 y1,.int .u64 s1,.int .u64 a1,.int .u64 b1,.int .u64 c1],.agg #[.int .i64 k2,.bool m2,.int .i64 t2,.int .i64 x2,.int .i64 y2,.int .u64 s2,.int .u64 a2,.int .u64 b2,.int .u64 c2]] _ _;generalize leastH ⟨⟨k1,m1,t1,x1,y1⟩,s1,(a1,b1,c1)⟩=n1 at B ⊢;generalize leastH ⟨⟨k2,m2,t2,x2,y2⟩,s2,(a2,b2,c2)⟩=n2 at A ⊢;clear hp hq hT C;go_enter func92,ntmps92;go_wp2_with fail;revert B A hA hB hG;generalize ((w.alloc (.cells #[.int .i64 k1,.bool m1,.int .i64 t1,.int .i64 x1,.int .i64 y1,.int .u64 s1,.int .u64 a1,.int .u64 b1,.int .u64 c1] 152)).alloc (.cells #[.int .i64 k2,.bool m2,.int .i64 t2,.int .i64 x2,.int .i64 y2,.int .u64 s2,.int .u64 a2,.int .u64 b2,.int .u64 c2] 152))=W;intro hA hB hG B A;have N:∀ d:SubG W,d.1.cell? ⟨w.heap.size,0,none⟩=some (.int .i64 k1):=λ d=>by simp[World.cell?,d.block hA]
 have H:∀ d:SubG W,d.1.cell? ⟨w.heap.size,1,none⟩=some (.bool m1):=λ d=>by simp[World.cell?,d.block hA]
 have U:∀ d:SubG W,d.1.cell? ⟨w.heap.size,2,none⟩=some (.int .i64 t1):=λ d=>by simp[World.cell?,d.block hA]
 have R:∀ d:SubG W,d.1.cell? ⟨w.heap.size,3,none⟩=some (.int .i64 x1):=λ d=>by simp[World.cell?,d.block hA]
 have D:∀ d:SubG W,d.1.cell? ⟨w.heap.size,4,none⟩=some (.int .i64 y1):=λ d=>by simp[World.cell?,d.block hA]
 have F:∀ d:SubG W,d.1.cell? ⟨w.heap.size,5,none⟩=some (.int .u64 s1):=λ d=>by simp[World.cell?,d.block hA]
 have J:∀ d:SubG W,d.1.cell? ⟨w.heap.size,6,none⟩=some (.int .u64 a1):=λ d=>by simp[World.cell?,d.block hA]
 have I:∀ d:SubG W,d.1.cell? ⟨w.heap.size,7,none⟩=some (.int .u64 b1):=λ d=>by simp[World.cell?,d.block hA]
 have M:∀ d:SubG W,d.1.cell? ⟨w.heap.size,8,none⟩=some (.int .u64 c1):=λ d=>by simp[World.cell?,d.block hA]
 have L:∀ d:SubG W,d.1.cell? ⟨w.heap.size+1,0,none⟩=some (.int .i64 k2):=λ d=>by simp[World.cell?,d.block hB]
 have T:∀ d:SubG W,d.1.cell? ⟨w.heap.size+1,1,none⟩=some (.bool m2):=λ d=>by simp[World.cell?,d.block hB]
 have S:∀ d:SubG W,d.1.cell? ⟨w.heap.size+1,2,none⟩=some (.int .i64 t2):=λ d=>by simp[World.cell?,d.block hB]
 have K:∀ d:SubG W,d.1.cell? ⟨w.heap.size+1,3,none⟩=some (.int .i64 x2):=λ d=>by simp[World.cell?,d.block hB]
 have O:∀ d:SubG W,d.1.cell? ⟨w.heap.size+1,4,none⟩=some (.int .i64 y2):=λ d=>by simp[World.cell?,d.block hB]
 have G:∀ d:SubG W,d.1.cell? ⟨w.heap.size+1,5,none⟩=some (.int .u64 s2):=λ d=>by simp[World.cell?,d.block hB]
 have X:∀ d:SubG W,d.1.cell? ⟨w.heap.size+1,6,none⟩=some (.int .u64 a2):=λ d=>by simp[World.cell?,d.block hB]
 have P:∀ d:SubG W,d.1.cell? ⟨w.heap.size+1,7,none⟩=some (.int .u64 b2):=λ d=>by simp[World.cell?,d.block hB]
 have V:∀ d:SubG W,d.1.cell? ⟨w.heap.size+1,8,none⟩=some (.int .u64 c2):=λ d=>by simp[World.cell?,d.block hB]
 refine zer 5 (by kernel_rfl) (by kernel_rfl) ?_;simp only[yh,yj,yi,yl]
 repeat (go_big_quiet_step (fail))
 go_big_quiet_step (exact B.o _)
 repeat (go_big_quiet_step (fail))
 go_big_quiet_step (exact A.o _)
 repeat (go_big_quiet_step (fail))
 go_big_quiet_step (exact qf7 _ _ _)
 repeat (go_big_quiet_step (fail))
 refine wpQuiet_nil ?_;intro dq;go_wp2_with fail;go_ret;exact⟨rfl,hG.trans dq.2⟩
structure HPo where
 p:HP
 lt:p.set<2 ^ 64
instance :Inhabited HPo:=⟨⟨⟨⟨0,false,0,0,0⟩,0,(0,0,0)⟩,by decide⟩⟩
def RPo:REnc HPo:=⟨152,9,λ p=>hpVals p.1,λ _=>rfl,λ p u h=>RP.one p.1 u h⟩
theorem zcE:∀ l:List HPo,RPo.cells l=RP.cells (l.map (·.1))
 | []=>rfl
 | p :: l=>by
  have:=zcE l;simp only[REnc.cells,List.flatMap_cons,yM]at this ⊢;rw[this];rfl
def cmpO (p q:HPo):Int:=cmpP p.1 q.1
theorem zf4:Sort.SWO (ltOf cmpO) where
 irrefl x:=zcD.irrefl x.1
 trans x y z h1 h2:=zcD.trans x.1 y.1 z.1 h1 h2
 ntrans x y z h1 h2:=zcD.ntrans x.1 y.1 z.1 h1 h2
theorem zgv (base g cap:Nat) (l:List HPo) (W:World) (hT:TbAt W) (hTg:1≠g) (hq:RPo.Own W base (.slice (some ⟨g,0,none⟩) l.length cap) l) (hn:l.length<=1000000) :
  Calls Tryz.prog 91 #[.slice (some ⟨g,0,none⟩) l.length cap,.func (.func 92) #[] #[]] W λ e W' =>
   e=.returned (.tuple #[])/\∃ l':List HPo,l'.Perm l/\l'.Pairwise (λ a b=>¬ leastH b.1<leastH a.1)/\RPo.Own W' base (.slice (some ⟨g,0,none⟩) l'.length cap) l'/\l'.length=l.length/\BelowBut W.heap.size g W W':=by
 obtain⟨hg,K⟩:=hq.lt g rfl;have S:∀ j,W.frozen? ⟨g,j,none⟩=false:=λ j=>by
  rcases hq.2 with⟨h,_⟩|⟨g',cap',cur,hv,_,h2,_⟩
  ·cases h
  simp only[yC,yo,Addr.mk.injEq,and_true]at hv;obtain⟨rfl,_⟩:=hv;exact frozen_of_row W _ j _ _ h2
 have hH:Sort.HoldsK RPo.vals 9 W g 0 l.toArray:=λ j hj=>by
  rw[Sort.size_flatK]at hj;obtain⟨e,he,hf⟩:=zdS RPo l.toArray j (by decide) hj;have F:(Sort.flatK RPo.vals 9 l.toArray)[j]! =((RPo.vals e)[j % 9]?).getD default:=hf;rw[F,Nat.zero_add];refine⟨?_,S j⟩;have:=hq.cells (g:=g) rfl j _ (zdu RPo (by decide) (by simpa using he));rwa [zJ]at this
 have H:CmpLays Tryz.prog 92 #[] RPo.vals 9 cmpO g 0 l.toArray.size W:=λ m os dk _ x y =>
  qeS x.1 y.1 x.2 y.2 _ (hT.move (qax RPo.vals 9 W g 0 m dk os hT.lt hTg))
 have C:=AnyQ.slices_SortFunc Tryz.sortPc 9 isAgg152 sizeOf152 RPo.vals RPo.len RPo.one cmpO zf4 92 #[] g 0 cap l.toArray W (enters_of func92 (by kernel_rfl) rfl) H hH K (by simp;omega);rw[show l.toArray.size=l.length by simp]at C;change Calls Tryz.prog 91 _ _ _ at C;refine C.mono ?_;rintro e W' ⟨rfl,d',nn,os,hp,hs,rfl⟩;have A:d'.size=l.length:=by simpa using hp.1
 have D:d'.toList.Perm l:=by
  have:=hp.2.2;rw[show d'.extract 0 l.length=d' by rw[<- A];simp,show l.toArray.extract 0 l.length=l.toArray by simp]at this;simpa using this
 have R:=holdsK_sortWorldK_c (α:=HPo) RPo.vals 9 W g 0 l.toArray d' nn os hH K (by simpa using A);refine⟨rfl,d'.toList,D,?_,?_,by simpa using A,⟨rfl,rfl,rfl,size_sortWorldK_c RPo.vals 9 W g 0 nn d' os,λ k hk hne=>qax RPo.vals 9 W g 0 nn d' os hk hne⟩⟩
 ·rw[List.pairwise_iff_getElem];intro i j hi hj hij;have O:i<d'.size:=by simpa using hi
  have J:j<d'.size:=by simpa using hj
  have:=hs i j (YC _) hij (by rw[<- A];exact J);rw[getElem!_pos d' i O,getElem!_pos d' j J]at this;have:=of_decide_eq_false this;intro M;exact this (za8.2 (by simpa using M))
 ·rcases hq.2 with⟨h,_⟩|⟨g',cap',cur,hv,hb,h2,h3,h4,h5,_⟩
  ·cases h
  simp only[yC,yo,Addr.mk.injEq,and_true]at hv;obtain⟨rfl,_,rfl⟩:=hv;obtain⟨B,L,T⟩:=zfc RPo.vals 9 W g 0 nn d' os h2;have N:d'.toList.length=l.length:=by simpa using A
  refine⟨by rw[REnc.cells_length],.inr ⟨g,cap,B,rfl,hb,L,by rw[N];exact h3,h4,by rw[T];exact h5,?_⟩⟩;have I:RPo.n=9:=rfl;show B.toList.take (d'.toList.length*9)=RPo.cells d'.toList;refine List.ext_getElem? λ j=>?_;by_cases hj:j<d'.toList.length*9
  ·have P:j<(Sort.flatK RPo.vals 9 d').size:=by rw[Sort.size_flatK];simpa using hj
   have h:=(R j P).1;rw[Nat.zero_add]at h;have G:(sortWorldK RPo.vals 9 W g 0 nn d' os).cell? ⟨g,j,none⟩=B[j]?:=(by simp[World.cell?,L]);rw[G]at h;obtain⟨e,he,hf⟩:=zdS RPo d' j (by decide) (by rw[I];simpa using hj);have F:(Sort.flatK RPo.vals 9 d')[j]! =((RPo.vals e)[j % 9]?).getD default:=hf;rw[List.getElem?_take_of_lt hj,zdu RPo (by decide) he];rw[F]at h;rw[Yq];exact h
  rw[List.getElem?_eq_none (by rw[Yf];omega),List.getElem?_eq_none (by rw[REnc.cells_length,I];omega)]
theorem qdr {α:Type} (f:α->Nat):∀ {l m:List α},l.Perm m->l.Pairwise (λ a b=>¬ f b<f a)->m.Pairwise (λ a b=>f a<f b)->l=m
 | [],m,h,_,_=>(List.nil_perm.1 h).symm
 | a :: l,[],h,_,_=>by have:=h.length_eq;simp at this
 | a :: l,b :: m,h,h1,h2=>by
  have ha:a=b:=by
   rcases Ye.1 (h.mem_iff.1 List.mem_cons_self)with e|e
   ·exact e
   rcases Ye.1 (h.mem_iff.2 List.mem_cons_self)with e'|e'
   ·exact e'.symm
   have x1:=(List.pairwise_cons.1 h1).1 b e';have x2:=(List.pairwise_cons.1 h2).1 a e;omega
  subst ha;rw[qdr f (List.Perm.cons_inv h) (List.pairwise_cons.1 h1).2 (List.pairwise_cons.1 h2).2]
theorem zfW (base:Nat) (v:Value) (l m:List HP) (W:World) (hT:TbAt W) (hTg:1<base) (hq:RP.Own W base v l) (hne:l≠[]) (hn:l.length<=1000000) (hl:∀ p∈l,p.set<2 ^ 64)
  (hm:m.Perm l) (hs:m.Pairwise λ a b=>leastH a<leastH b) :
  Calls Tryz.prog 91 #[v,.func (.func 92) #[] #[]] W λ e W' =>
   e=.returned (.tuple #[])/\RP.Own W' base v m/\W.heap.size<=W'.heap.size/\W'.os=W.os/\W'.tape=W.tape/\W'.output=W.output/\∀ k,k<W.heap.size->v.ownBlock≠some k->W'.heap[k]?=W.heap[k]?:=by
 obtain⟨lo,rfl⟩:∃ lo:List HPo,l=lo.map (·.1):=⟨l.attach.map λ x=>⟨x.1,hl x.1 x.2⟩,by rw[List.map_map];exact (List.attach_map_subtype_val l).symm⟩;obtain⟨g,A,hv,hg⟩:∃ g A,v=.slice (some ⟨g,0,none⟩) lo.length A/\base<=g:=by
  rcases hq.2 with⟨_,h0⟩|⟨g,A,cur,hv,hb,_⟩
  ·exact absurd (yT.1 h0) hne
  exact⟨g,A,by rw[hv,yB],hb⟩
 subst hv;have B:RPo.Own W base (.slice (some ⟨g,0,none⟩) lo.length A) lo:=by
  show W.ownsRow base _ 9 _ lo.length (RPo.cells lo);rw[zcE];have:W.ownsRow base RP.ty RP.n (.slice (some ⟨g,0,none⟩) lo.length A) (lo.map (·.1)).length (RP.cells (lo.map (·.1))):=hq;rw[yB]at this;exact this
 refine (zgv base g A lo W hT (by omega) B (by simpa using hn)).mono ?_;rintro e W' ⟨rfl,l',hp,hpw,ho,hlen,hb⟩;have e:l'.map (·.1)=m:=qdr leastH ((hp.map _).trans hm.symm) (List.pairwise_map.2 hpw) hs;refine⟨rfl,?_,hb.size,hb.os,hb.tape,hb.output,λ k hk hne=>hb.block k hk λ e=>hne (by rw[e];rfl)⟩;subst e;show W'.ownsRow base _ 9 _ (l'.map (·.1)).length (RP.cells (l'.map (·.1)));rw[<- zcE,yB,<- hlen];exact ho
end Go.Proofs.YtiinlplgloaanaaGreatDoor
namespace Go.Proofs.YtiinlplgloaanaaGreatDoor
open Go.Proofs.Tryz Go.RowKit Go.ChangeShapes Go.WideShapes Go.Deep
theorem qgj:Tryz.prog.globalNamed "math/bits.deBruijn64tab"=some 1:=by kernel_rfl
theorem qik:(Tryz.prog.globals[1]?).map (·.type)=some 243:=by kernel_rfl
theorem zfH {l:List (String × DataW Unit)} {W:World} (hm:("math/bits.deBruijn64tab",Rows.laid_math_bits_deBruijn64tab)∈l) (h:laidMet Tryz.prog l W):TbAt W:=by
 obtain⟨g,t,cs,A,p,hg,ht,hv,hd⟩:=Lib.laidMet.reads h hm;obtain rfl:=Option.some.inj (qgj.symm.trans hg);obtain rfl:=Option.some.inj (qik.symm.trans ht);have B:DataW.trod (λ _=>()) Tryz.prog W 0 (λ _=>true) false A 243 cs.toList=some (Lib.tabData .u8 (Lib.deBruijn64tab.map λ n:Nat=>(n:Int)),p):=hd;have C:=Lib.cells_of_tab underlying243 underlying5 (by kernel_rfl) (by kernel_rfl) B;unfold World.var? at hv;rw[qgj]at hv;simp only[Option.bind_some]at hv;split at hv
 ·rename_i cs' t' fr hw
  cases hv
  intro j hj;simp only[World.cell?,hw];simp only[Option.isSome_none,Yo,if_false];rw[<- Yq,C,yQ,yQ,yb hj];simp[List.getD,yb hj]
 cases hv
noncomputable def laidWorld6 (os:Os):World :=
 let w0:=World.holding Tryz.prog os ⟨#[],#[],[]⟩
 let put (h:Array Obj) (g:Nat) (cs:Array Value):Array Obj:=h.modify g fun
  | .cells _ t frozen=>.cells cs t frozen
  | o=>o
 let h1:=put w0.heap 0 kindsA
 let h2:=put h1 4 (Lib.firstTab.map λ z=>Value.int .u8 z).toArray
 let h3:=put h2 5 ((List.range 16).flatMap λ i=>[Value.int .u8 (Lib.accLo i),Value.int .u8 (Lib.accHi i)]).toArray
 let h4:=put h3 1 (Lib.deBruijn64tab.map λ n:Nat=>Value.int .u8 n).toArray
 let h5:=put h4 6 (Lib.deBruijn32tab.map λ n:Nat=>Value.int .u8 n).toArray
 let h6:=put h5 3 ((List.range 20).map λ n:Nat=>Value.int .u64 (10 ^ n:Nat)).toArray
 { w0 with heap:=h6 }
end Go.Proofs.YtiinlplgloaanaaGreatDoor
namespace Go.Proofs.YtiinlplgloaanaaGreatDoor
open Go.Proofs.Tryz Go.RowKit
section
variable {P:Program} {ops:Array Oper}
def jqB (ops:Array Oper) (m:Nat):Bool :=
 (ops.all λ o=>o.guard==none) &&
 ((List.range ops.size).all λ i=>match ops[i]? with|some o=>o.after.all λ e=>!Region.binds .any e||decide (e.on<i)|none=>true) &&
 ((List.range ops.size).all λ i=>(List.range ops.size).all λ j=>match ops[i]?,ops[j]? with
  | some oi,some oj=>(match oj.dst with
   | some d=>(i==j||oi.dst != some d)&&decide (d<m)
   | none=>true)
  | _,_=>true)
structure JQ (ops:Array Oper) (m:Nat):Prop where
 nogd:∀ (i:Nat) (o:Oper),ops[i]?=some o->o.guard=none
 back:∀ (i:Nat) (o:Oper),ops[i]?=some o->∀ e∈o.after,Region.binds .any e=true->e.on<i
 uniq:∀ (i j d:Nat) (oi oj:Oper),ops[i]?=some oi->ops[j]?=some oj->oi.dst=some d->oj.dst=some d->i=j
 dst:∀ (j d:Nat) (oj:Oper),ops[j]?=some oj->oj.dst=some d->d<m
theorem qhQ {m:Nat} (h:jqB ops m=true):JQ ops m:=by
 simp only[jqB,Yr,List.all_eq_true,List.mem_range]at h;obtain⟨⟨h4,h5⟩,h9⟩:=h;have A:∀ (i j d:Nat) (oi oj:Oper),ops[i]?=some oi->ops[j]?=some oj->oj.dst=some d->(i=j\/oi.dst≠some d)/\d<m:=λ i j d oi oj hoi hoj hd=>by
  have:=h9 i (ya.1 hoi).1 j (ya.1 hoj).1;rw[hoi,hoj]at this;simp only[hd,Yr,Bool.or_eq_true,beq_iff_eq,bne_iff_ne,yS]at this;exact this
 refine⟨λ i o ho=>?_,λ i o ho e he hb=>?_,λ i j d oi oj hoi hoj h1 h2=>?_,λ j d oj hoj h1=>(A j j d oj oj hoj hoj h1).2⟩
 ·have:=Yp.1 h4 o (Array.mem_of_getElem? ho);exact beq_iff_eq.1 this
 ·have:=h5 i (ya.1 ho).1;rw[ho]at this;have:=Yp.1 this e he;simpa[hb]using this
 rcases (A i j d oi oj hoi hoj h2).1 with h|h
 ·exact h
 exact absurd h1 h
theorem Fill.putJ {a b:Act} {s:Nat->Bool} {val:Nat->Value} {m:Nat} (g:JQ ops m) (h:Fill ops a s val b) {i:Nat} {o:Oper} (ho:ops[i]?=some o) (hsi:s i=false) (v:Value) :
  Fill ops a (λ j=>s j||j==i) (λ j=>if j=i then v else val j) (b.put o.dst v):=by
 refine⟨by rw[zaR];exact h.defs,by rw[zbF];exact h.size,λ j d oj hoj hd hsj hlt=>?_,λ d hd=>?_⟩
 ·rw[zad];by_cases hji:j=i
  ·subst hji;rw[ho]at hoj;cases hoj;rw[YA hd,YA (by have:=h.size;omega),YA rfl]
  have A:o.dst≠some d:=λ e=>hji (g.uniq j i d oj o hoj ho hd e);rw[Yz A,Yz hji];exact h.hit j d oj hoj hd (by simpa[hji]using hsj) hlt
 ·have A:o.dst≠some d:=λ e=>by have:=hd i o ho e;simp at this
  rw[zad,Yz A];exact h.miss d λ j oj hoj hd'=>by have:=hd j oj hoj hd';simp at this;exact this.1
theorem qbK {m:Nat} (g:JQ ops m) {i j:Nat} (h:waits ops i j=true):j<i:=by
 obtain⟨oi,hoi,e,he,hb,hon⟩:=qN h;rw[<- hon];exact g.back i oi hoi e he hb
theorem qcB {a b:Act} {m:Nat} {vals:Nat->Value} (h:Fill ops a (λ i=>decide (i<ops.size)) vals b) (hq:JQ ops m):b=putAll ops.toList ((List.range ops.size).map vals) a:=by
 have A:∀ k,k<=ops.size->Fill ops a (λ i=>decide (i<k)) vals (Proofs.YtiinlplgloaanaaGreatDoor.putAll (ops.toList.take k) ((List.range k).map vals) a):=by
  intro k
  induction k with
  | zero=>intro _;simp only[yj,YE,Yi,Proofs.YtiinlplgloaanaaGreatDoor.putAll];exact (Fill.start a vals).congr (λ i _=>by simp) (λ _ _ _=>rfl)
  | succ k ih =>
   intro hk;have h1:=ih (by omega);obtain⟨o,ho⟩:∃ o,ops[k]?=some o:=⟨_,yD (by omega)⟩;have e:Proofs.YtiinlplgloaanaaGreatDoor.putAll (ops.toList.take (k+1)) ((List.range (k+1)).map vals) a=(Proofs.YtiinlplgloaanaaGreatDoor.putAll (ops.toList.take k) ((List.range k).map vals) a).put o.dst (vals k):=by
    have B:∀ (l:List Oper) (vs:List Value) (a:Act) (o:Oper) (v:Value),l.length=vs.length->Proofs.YtiinlplgloaanaaGreatDoor.putAll (l++[o]) (vs++[v]) a=(Proofs.YtiinlplgloaanaaGreatDoor.putAll l vs a).put o.dst v:=by
     intro l
     induction l with
     | nil=>intro vs a o v hl;obtain rfl:=yT.1 hl.symm;rfl
     | cons x l ih =>
      intro vs a o v hl
      cases vs with
      | nil=>simp at hl
      | cons u vs=>exact ih vs _ o v (by simpa using hl)
    have ht:ops.toList.take (k+1)=ops.toList.take k++[o]:=by
     have hl:ops.toList[k]?=some o:=(by simpa using ho);obtain⟨hh,he⟩:=yc.1 hl;rw[Ys hh,he]
    rw[ht,Yl,Ym];exact B _ _ _ _ _ (by simp;omega)
   rw[e];refine (h1.putJ hq ho (by simp) (vals k)).congr (λ i _=>?_) (λ i _ _=>?_)
   ·rw[Bool.eq_iff_iff];simp;omega
   split
   ·rename_i h;rw[h]
   rfl
 have:=h.unique (A ops.size (ye _));rwa [List.take_of_length_le (by simp)]at this
structure JK (ops:Array Oper) (a:Act) (i:Nat) (L:Nat->Bool) (b:Act) (vals:Nat->Value):Prop where
 old:∀ d:Nat,(∀ (j:Nat) (o:Oper),ops[j]?=some o->o.dst=some d->waits ops j i=true)->b.tmps[d]?=a.tmps[d]?
 new:∀ (j d:Nat) (o:Oper),waits ops i j=true->ops[j]?=some o->o.dst=some d->b.tmps[d]?=some (vals j)
theorem JK.val {a:Act} {i:Nat} {L:Nat->Bool} {b:Act} {vals:Nat->Value} (h:JK ops a i L b vals) (j d:Nat) (hn:newOf ops i j d=true):b.eval (.tmp d)=vals j/\True:=by
 simp only[newOf,Yr]at hn;obtain⟨hw,hd⟩:=hn
 cases ho:ops[j]? with
 | none=>rw[ho]at hd;cases hd
 | some o =>
  rw[ho]at hd;have:=h.new j d o hw ho (beq_iff_eq.1 hd);exact⟨by simp[Act.eval,this],trivial⟩
def wasOf (ops:Array Oper) (i d:Nat):Bool:=(List.range ops.size).all λ j=>match ops[j]? with|some o=>o.dst != some d||waits ops j i|none=>true
theorem JK.was {a:Act} {i:Nat} {L:Nat->Bool} {b:Act} {vals:Nat->Value} (h:JK ops a i L b vals) (d:Nat) (hn:wasOf ops i d=true):b.eval (.tmp d)=a.eval (.tmp d):=by
 have:=h.old d (λ j o hj hd=>by
  have:=List.all_eq_true.1 hn j (List.mem_range.2 (ya.1 hj).1);simpa[hj,hd]using this)
 simp[Act.eval,this]
def jointOne (P:Program) (ops:Array Oper) (a:Act) (J:(Nat->Bool)->(Nat->Value)->World->Prop) (i:Nat) (o:Oper):Prop :=
 ∀ (L:Nat->Bool) (b:Act) (W:World) (vals:Nat->Value),L i=false->(∀ j,waits ops i j=true->L j=true)->(∀ j k,j<ops.size->L j=true->waits ops j k=true->L k=true) ->
  JK ops a i L b vals->J L vals W->loudUpon P (λ v W'=>J (λ j=>L j||j==i) (λ j=>if j=i then v else vals j) W') ((execOp b.eval o).run P W)
def zbO (P:Program) (ops:Array Oper) (a:Act) (J:(Nat->Bool)->(Nat->Value)->World->Prop):Nat->List Oper->Prop
 | _,[]=>True
 | i,o :: rest=>jointOne P ops a J i o/\zbO P ops a J (i+1) rest
theorem qcn {a:Act} {J:(Nat->Bool)->(Nat->Value)->World->Prop} (l:List Oper):∀ (k i:Nat) (o:Oper),zbO P ops a J k l->l[i]?=some o->jointOne P ops a J (k+i) o:=by
 induction l with
 | nil=>intro k i o h ho;simp at ho
 | cons x l ih =>
  intro k i o h ho;obtain⟨h1,h2⟩:=h
  cases i with
  | zero =>
   rw[List.getElem?_cons_zero,yo]at ho;rw[<- ho,Nat.add_zero];exact h1
  | succ i =>
   rw[List.getElem?_cons_succ]at ho;have:=ih (k+1) i o h2 ho;rwa [show k+1+i=k+(i+1)by omega]at this
theorem zT {id:Nat} {Q:Exit->Act->World->Prop} {a:Act} {w:World} {l:List Oper} (m:Nat) (hm:P.follows .mixedOrders=true) (hB:jqB l.toArray m=true) (hsz:a.tmps.size=m)
  (J:(Nat->Bool)->(Nat->Value)->World->Prop) (h0:J (λ _=>false) (λ _=>undef) w.drew) (hall:zbO P l.toArray a J 0 l)
  (hdone:∀ (L:Nat->Bool) (vals:Nat->Value) (W:World),(∀ i,i<l.length->L i=true)->J L vals W->Q .normal (putAll l ((List.range l.length).map vals) a) W) :
  (Code.region id l.toArray true).wp P Q a w:=by
 subst hsz;have g:=qhQ hB;have H:l.toArray.size=l.length:=by simp
 refine wp_region_any hm (zaZ _ _ _ _ ?_);refine qdG (ops:=l.toArray) (S:=λ i K=>wpOp P l.toArray Q i K) (λ L b W=>∃ (L0:Nat->Bool) (vals:Nat->Value),(∀ i,i<l.toArray.size->L i=L0 i)/\Fill l.toArray a L0 vals b/\J L0 vals W) g.back (λ i K K' a w hk=>wpOp_mono hk) ?_ ?_ ?_ l.toArray.size _ a w.drew ⟨λ _=>false,λ _=>undef,λ i _=>zL _ _,Fill.start a (λ _=>undef),h0⟩ (by simp) (zaC _) (λ j oj _ hl=>by rw[zL]at hl;cases hl)
 ·rintro L L' b W hLL ⟨L0,vals,h1,h2,h3⟩;exact⟨L0,vals,λ i hi=>by rw[hLL i hi];exact h1 i hi,h2,h3⟩
 ·rintro L b W i o ⟨L0,vals,h1,h2,h3⟩ hcl hi ho hdeps;have M:i<l.toArray.size:=(ya.1 ho).1;have B:L0 i=false:=by rw[<- h1 i M];exact hi
  have G:∀ j,waits l.toArray i j=true->L0 j=true:=λ j hw=>by
   have:=qat (ops:=l.toArray) (L:=L) ho hdeps hw;rw[<- h1 j (by have:=qbK g hw;omega)];exact this
  have D:∀ j k,j<l.toArray.size->L0 j=true->waits l.toArray j k=true->L0 k=true:=λ j k hj hlj hw=>by
   obtain⟨oj,C,e,he,hb,N⟩:=qN hw;rw[<- h1 j hj]at hlj;have:=hcl j oj C hlj e he hb;rw[N]at this;rw[<- h1 k (by have:=qbK g hw;omega)];exact this
  have O:JK l.toArray a i L0 b vals:=⟨λ d hd=>h2.miss d (λ j o hj hjd=>by
   cases hl:L0 j with
   | false=>rfl
   | true=>rw[D j i (ya.1 hj).1 hl (hd j o hj hjd)]at B;cases B),λ j d oj hw C hd=>h2.hit j d oj C hd (G j hw) (g.dst j d oj C hd)⟩
  have F:=qcn l 0 i o hall (by simpa using ho);rw[Nat.zero_add]at F;have hl:=F L0 b W vals B G D O h3;have A:∀ v W',J (λ j=>L0 j||j==i) (λ j=>if j=i then v else vals j) W'->∃ (L1:Nat->Bool) (vals1:Nat->Value),(∀ j,j<l.toArray.size->(L j||j==i)=L1 j)/\Fill l.toArray a L1 vals1 (b.put o.dst v)/\J L1 vals1 W':=λ v W' hJ =>
   ⟨_,_,λ j hj=>by rw[h1 j hj],h2.putJ g ho B v,hJ⟩
  unfold wpOp;simp only[ho,Region.wanted,g.nogd i o ho,if_true,Oper.wp];refine .inl ?_;revert hl
  cases (execOp b.eval o).run P W with
  | halt x w'=>exact λ h=>h.elim
  | ok x w' =>
   cases x <;> simp only[loudUpon,Oper.upon] <;> first|exact λ h=>h.elim|exact λ h=>A _ _ h|skip
   case enter f args =>
    refine λ hc=>hc.mono λ e w''=>?_
    cases e with
    | returned v=>exact λ h=>A _ _ h
    | _=>exact λ h=>h.elim
 ·rintro L b W ⟨L0,vals,h1,h2,h3⟩ hL;have I:∀ i,i<l.length->L0 i=true:=λ i hi=>by rw[<- h1 i (by omega)];exact hL i (by omega)
  have hf:Fill l.toArray a (λ i=>decide (i<l.toArray.size)) vals b:=h2.congr (λ i hi=>by rw[I i (by omega)];simp;omega) (λ _ _ _=>rfl);have e:=qcB hf g;rw[H]at e;rw[e];exact hdone L0 vals W I h3
variable {W1 W:World} {e:TypeId} {size k1 k2:Nat} {pre news suf:List Value} {c:Nat->Option Value} {L:Nat->Bool} {vals:Nat->Value}
section
variable {T ty:TypeId} {i:TypeInfo} {z:Value} {bytes:Nat} (ht:P.underlying T=some (.slice e)) (hi:P.info? e=some i) (hz:i.zero=some z) (hsize:i.size=size) (hby:i.bytes=bytes) (hzs:z.cells.size=size) (hsz:0<size)
include ht hi hz hsize hby hzs hsz
end
theorem zx {ops:Array Oper} {L:Nat->Bool} (hC:∀ j k,j<ops.size->L j=true->waits ops j k=true->L k=true) {i j:Nat} (hi:L i=false) (hj:j<ops.size) (hw:waits ops j i=true):L j=false:=by
 cases h:L j with
 | false=>rfl
 | true=>rw[hC j i hj h hw]at hi;cases hi
theorem zab {o:Oper} {s x:Operand} {T:TypeId} {b:Act} {W W':World} {v u y:Value} {next:Value->World->Prop} (ho:o.op=.call { callee:=.builtin .append,args:=#[s,x],argTypes:=#[T,T] })
  (hs:b.eval s=u) (hx:b.eval x=y) (hr:(Builtin.append_ #[T,T] o.type #[u,y]).run P W=.ok v W') (hn:next v W'):loudUpon P next ((execOp b.eval o).run P W):=by
 refine zV (v:=v) (W':=W') ?_ hn;unfold execOp;simp only[ho,resolve,invoke,builtin,yG,yH,yz,Yu,yM,Yi,hs,hx,hr]
theorem qam {o:Oper} {x:Operand} {b:Act} {W:World} {next:Value->World->Prop} (ho:o.op=.assign x) (hn:next (b.eval x) W):loudUpon P next ((execOp b.eval o).run P W):=by
 refine zV (v:=b.eval x) (W':=W) ?_ hn;unfold execOp;simp only[ho,yH]
theorem addr_add (g k j:Nat):(⟨g,k,none⟩:Addr).add j=⟨g,k+j,none⟩:=by unfold Addr.add;split <;> simp_all
theorem qfH (g k cap s:Nat):sliced (some ⟨g,0,none⟩) 0 k cap s=.slice (some ⟨g,0,none⟩) k cap:=by
 unfold sliced;simp[addr_add]
theorem zfA {g k n cap s:Nat} (hk:k<=n) (hn:n<=cap):∃ ad c',sliced (some ⟨g,0,none⟩) k n cap s=.slice (some ad) (n-k) c'/\(k<n->ad=⟨g,k*s,none⟩):=by
 unfold sliced;by_cases h:cap=k
 ·exact⟨⟨g,0,none⟩,cap-k,by rw[YA h],λ hlt=>by omega⟩
 exact⟨⟨g,k*s,none⟩,cap-k,by rw[Yz h];simp[addr_add],λ _=>rfl⟩
theorem zdw {o:Oper} {T e:TypeId} {b:Act} {W:World} {s:Nat} {next:Value->World->Prop} (ho:o.op=.buildSlice T 0 #[]) (ht:P.underlying T=some (.slice e)) (hs:(sizeOf e).run P W=.ok s W)
  (hn:next (.slice (some ⟨W.heap.size,0,none⟩) 0 0) (W.alloc (.cells #[] e))):loudUpon P next ((execOp b.eval o).run P W):=by
 refine zV (v:=.slice (some ⟨W.heap.size,0,none⟩) 0 0) (W':=W.alloc (.cells #[] e)) ?_ hn;unfold execOp;simp[ho,yG,Instr.buildSlice,run_underlying ht,hs,Instr.fill,newRow,Result.andThen];rw[show (Array.range 0).map (λ _=>(default:Value))=#[]from Array.eq_empty_of_size_eq_zero (by simp)]
theorem zac {o:Oper} {T e:TypeId} {b:Act} {W:World} {x:Operand} {u:Value} {ie:TypeInfo} {z:Value} {cells:Array Value} {next:Value->World->Prop} (ho:o.op=.buildSlice T 1 #[(0,x)]) (hx:b.eval x=u)
  (hu:P.underlying T=some (.slice e)) (hie:P.info? e=some ie) (hz:ie.zero=some z) (hsmall:¬ 1*ie.size > 2 ^ 24) (hpos:¬ 1*ie.size=0)
  (h:Instr.fill (λ i=>some (i*ie.size,ie.size)) ((Array.range (1*ie.size)).map (z.cells[· % z.cells.size]!)) [(0,u)]=some cells)
  (hn:next (.slice (some ⟨W.heap.size,0,none⟩) 1 1) (W.alloc (.cells cells e))):loudUpon P next ((execOp b.eval o).run P W):=by
 refine zV (v:=.slice (some ⟨W.heap.size,0,none⟩) 1 1) (W':=W.alloc (.cells cells e)) ?_ hn;unfold execOp;simp only[ho,yG];rw[run_buildSlice W T e 1 _ cells ie z hu hie hz hsmall hpos (by simpa[hx]using h)];simp only[yz,yH]
end
section
variable {P:Program} {ops:Array Oper}
theorem qcK {ro:Option Nat} {id:Nat} {Q:Exit->Act->World->Prop} {a:Act} {w:World} {l:List Oper} (m:Nat) (hm:P.follows .mixedOrders=true) (hB:jqB l.toArray m=true) (hD:noDefer l.toArray=true) (hsz:a.tmps.size=m)
  (J:(Nat->Bool)->(Nat->Value)->World->Prop) (h0:J (λ _=>false) (λ _=>undef) w.drew) (hall:zbO P l.toArray a J 0 l)
  (hdone:∀ (L:Nat->Bool) (vals:Nat->Value) (W:World),(∀ i,i<l.length->L i=true)->J L vals W->Q .normal (putAll l ((List.range l.length).map vals) a) W) :
  (Code.region id l.toArray true).wpIn (FW ro) 0 P Q a w:=by
 subst hsz;have g:=qhQ hB;have H:l.toArray.size=l.length:=by simp
 have N:∀ (i:Nat) (o:Oper),l.toArray[i]?=some o->∀ c,o.op≠.defer c:=λ i o ho c hc=>by
  have:=Yp.1 hD o (Array.mem_of_getElem? ho);simp[hc]at this
 refine wpIn_region_any hm (qaH _ _ _ _ ?_);refine qdG (ops:=l.toArray) (S:=λ i K=>wpOpIn (FW ro) 0 P l.toArray Q i K) (λ L b W=>∃ (L0:Nat->Bool) (vals:Nat->Value),(∀ i,i<l.toArray.size->L i=L0 i)/\Fill l.toArray a L0 vals b/\J L0 vals W) g.back (λ i K K' a w hk=>wpOpIn_mono hk) ?_ ?_ ?_ l.toArray.size _ a w.drew ⟨λ _=>false,λ _=>undef,λ i _=>zL _ _,Fill.start a (λ _=>undef),h0⟩ (by simp) (zaC _) (λ j oj _ hl=>by rw[zL]at hl;cases hl)
 ·rintro L L' b W hLL ⟨L0,vals,h1,h2,h3⟩;exact⟨L0,vals,λ i hi=>by rw[hLL i hi];exact h1 i hi,h2,h3⟩
 ·rintro L b W i o ⟨L0,vals,h1,h2,h3⟩ hcl hi ho hdeps;have M:i<l.toArray.size:=(ya.1 ho).1;have C:L0 i=false:=by rw[<- h1 i M];exact hi
  have G:∀ j,waits l.toArray i j=true->L0 j=true:=λ j hw=>by
   have:=qat (ops:=l.toArray) (L:=L) ho hdeps hw;rw[<- h1 j (by have:=qbK g hw;omega)];exact this
  have D:∀ j k,j<l.toArray.size->L0 j=true->waits l.toArray j k=true->L0 k=true:=λ j k hj hlj hw=>by
   obtain⟨oj,B,e,he,hb,R⟩:=qN hw;rw[<- h1 j hj]at hlj;have:=hcl j oj B hlj e he hb;rw[R]at this;rw[<- h1 k (by have:=qbK g hw;omega)];exact this
  have O:JK l.toArray a i L0 b vals:=⟨λ d hd=>h2.miss d (λ j o hj hjd=>by
   cases hl:L0 j with
   | false=>rfl
   | true=>rw[D j i (ya.1 hj).1 hl (hd j o hj hjd)]at C;cases C),λ j d oj hw B hd=>h2.hit j d oj B hd (G j hw) (g.dst j d oj B hd)⟩
  have F:=qcn l 0 i o hall (by simpa using ho);rw[Nat.zero_add]at F;have hl:=F L0 b W vals C G D O h3;have A:∀ v W',J (λ j=>L0 j||j==i) (λ j=>if j=i then v else vals j) W'->∃ (L1:Nat->Bool) (vals1:Nat->Value),(∀ j,j<l.toArray.size->(L j||j==i)=L1 j)/\Fill l.toArray a L1 vals1 (b.put o.dst v)/\J L1 vals1 W':=λ v W' hJ =>
   ⟨_,_,λ j hj=>by rw[h1 j hj],h2.putJ g ho C v,hJ⟩
  unfold wpOpIn;simp only[ho,Region.wanted,g.nogd i o ho,if_true];refine⟨λ _ _=>trivial,?_⟩;rw[Oper.semAt_eq _ _ _ (N i o ho)];revert hl
  cases (execOp b.eval o).run P W with
  | halt x w'=>exact λ h=>h.elim
  | ok x w' =>
   cases x <;> simp only[loudUpon,Oper.uponIn] <;> first|exact λ h=>h.elim|exact λ h=>A _ _ h|skip
   case enter f args =>
    refine λ hc=>⟨λ h=>by simp at h,zy.2 (hc.mono λ e w''=>?_)⟩
    cases e with
    | returned v=>exact λ h=>A _ _ h
    | _=>exact λ h=>h.elim
 ·rintro L b W ⟨L0,vals,h1,h2,h3⟩ hL;have I:∀ i,i<l.length->L0 i=true:=λ i hi=>by rw[<- h1 i (by omega)];exact hL i (by omega)
  have hf:Fill l.toArray a (λ i=>decide (i<l.toArray.size)) vals b:=h2.congr (λ i hi=>by rw[I i (by omega)];simp;omega) (λ _ _ _=>rfl);have e:=qcB hf g;rw[H]at e;rw[e];exact hdone L0 vals W I h3
end
attribute [local go_sem] Oper.semAt_some
structure CallJ (k s:Nat) (c:Nat->Option Value) (Pre Post Fin:World->Prop) (L:Nat->Bool) (vals:Nat->Value) (W:World):Prop where
 pure_:∀ i v,c i=some v->L i=true->vals i=v
 pre:L k=false->Pre W
 post:L k=true->L s=false->Post W
 fin:L s=true->Fin W
section
variable {k s:Nat} {c:Nat->Option Value} {Pre Post Fin:World->Prop} {L:Nat->Bool} {vals:Nat->Value} {W W':World}
theorem CallJ.start (h:Pre W) (v:Nat->Value):CallJ k s c Pre Post Fin (λ _=>false) v W:=⟨λ _ _ _ h=>by simp at h,λ _=>h,λ h=>by simp at h,λ h=>by simp at h⟩
theorem CallJ.other (h:CallJ k s c Pre Post Fin L vals W) {i:Nat} {v:Value} (hi:i≠k/\i≠s) (hv:c i=some v):CallJ k s c Pre Post Fin (λ j=>L j||j==i) (λ j=>if j=i then v else vals j) W:=by
 have q1:(k==i)=false:=by simp only[Yt,ne_eq];exact Ne.symm hi.1
 have q2:(s==i)=false:=by simp only[Yt,ne_eq];exact Ne.symm hi.2
 refine⟨λ j u hj hl=>?_,λ hl=>h.pre (by simpa[q1]using hl),λ hl hs=>h.post (by simpa[q1]using hl) (by simpa[q2]using hs),λ hs=>h.fin (by simpa[q2]using hs)⟩;by_cases e:j=i
 ·subst e;rw[YA rfl];rw[hv]at hj;exact Option.some.inj hj
 rw[Yz e];exact h.pure_ j u hj (by simpa[e]using hl)
theorem CallJ.call (h:CallJ k s c Pre Post Fin L vals W) (hks:k≠s) (hs:L s=false) {v:Value} (hv:c k=some v) (hp:Post W'):CallJ k s c Pre Post Fin (λ j=>L j||j==k) (λ j=>if j=k then v else vals j) W':=by
 have q2:(s==k)=false:=by simp only[Yt,ne_eq];exact Ne.symm hks
 refine⟨λ j u hj hl=>?_,λ hl=>by simp at hl,λ _ _=>hp,λ hl=>by simp[q2,hs]at hl⟩;by_cases e:j=k
 ·subst e;rw[YA rfl];rw[hv]at hj;exact Option.some.inj hj
 rw[Yz e];exact h.pure_ j u hj (by simpa[e]using hl)
theorem CallJ.store (h:CallJ k s c Pre Post Fin L vals W) (hk:L k=true) (hv:c s=none) (hf:Fin W'):CallJ k s c Pre Post Fin (λ j=>L j||j==s) (λ j=>if j=s then undef else vals j) W':=by
 refine⟨λ j u hj hl=>?_,λ hl=>by simp[hk]at hl,λ _ hl=>by simp at hl,λ _=>hf⟩;by_cases e:j=s
 ·subst e;rw[hv]at hj;cases hj
 rw[Yz e];exact h.pure_ j u hj (by simpa[e]using hl)
end
section
variable {P:Program}
theorem zgV {next:Value->World->Prop} {o:Oper} {x y:Operand} {T T2:TypeId} (hop:o.op=.binOp .add T x y T2) {b:Act} {W:World} {m n:Int} (hx:b.eval x=.int .i64 m) (hy:b.eval y=.int .i64 n) (hr:IntKind.i64.wrap (m+n)=m+n)
  (hn:next (.int .i64 (m+n)) W):loudUpon P next ((execOp b.eval o).run P W):=by
 refine zV (W':=W) (v:=.int .i64 (m+n)) ?_ hn;unfold execOp;simp only[hop,hx,hy];simp[go_sem,hr]
theorem qde {next:Value->World->Prop} {o:Oper} {p u:Operand} {T:TypeId} (hop:o.op=.store T p u) {b:Act} {W W':World} {q:Addr} {v:Value} (hp:b.eval p=.pointer (some q)) (hu:b.eval u=v)
  (hrun:(Instr.storeAt T (.pointer (some q)) v).run P W=.ok () W') (hn:next undef W'):loudUpon P next ((execOp b.eval o).run P W):=by
 refine zdM (W':=W') ?_ hn;unfold execOp;simp only[hop,hp,hu,yG,hrun,yz,yH]
end
structure ChainJ (ks:List Nat) (c:Nat->Option Value) (St:Nat->(Nat->Value)->World->Prop) (L:Nat->Bool) (vals:Nat->Value) (W:World):Prop where
 pure_:∀ i v,c i=some v->L i=true->vals i=v
 chain:∃ n,n<=ks.length/\(∀ (i k:Nat),ks[i]?=some k->(L k=true↔i<n))/\St n vals W
section
variable {ks:List Nat} {c:Nat->Option Value} {St:Nat->(Nat->Value)->World->Prop} {L:Nat->Bool} {vals:Nat->Value} {W W':World}
theorem ChainJ.start (h:∀ v,St 0 v W) (v:Nat->Value):ChainJ ks c St (λ _=>false) v W:=⟨λ _ _ _ h=>by simp at h,0,YC _,λ _ _ _=>by simp,h v⟩
theorem ChainJ.other (h:ChainJ ks c St L vals W) (hSt:∀ n v v' W,(∀ i∈ks,v i=v' i)->St n v W->St n v' W) {i:Nat} {v:Value} (hi:i∉ks) (hv:c i=some v):ChainJ ks c St (λ j=>L j||j==i) (λ j=>if j=i then v else vals j) W:=by
 obtain⟨h1,n,h2,h3,h4⟩:=h;refine⟨λ j u hj hl=>?_,n,h2,λ j k hk=>?_,hSt n vals _ W (λ j hj=>(Yz (λ (e:j=i)=>hi (e▸hj))).symm) h4⟩
 ·by_cases e:j=i
  ·subst e;rw[YA rfl];rw[hv]at hj;exact Option.some.inj hj
  rw[Yz e];exact h1 j u hj (by simpa[e]using hl)
 have:(k==i)=false:=by simp only[Yt,ne_eq];exact λ e=>hi (e▸yg hk)
 rw[this,Bool.or_false];exact h3 j k hk
theorem ChainJ.at_ (h:ChainJ ks c St L vals W) (n:Nat) (h1:∀ k,0<n->ks[n-1]?=some k->L k=true) (h0:n<=ks.length) (h2:∀ k,ks[n]?=some k->L k=false):St n vals W:=by
 obtain⟨_,m,hm,h3,h4⟩:=h;have hle:n<=m:=by
  rcases Nat.eq_zero_or_pos n with h|h
  ·omega
  obtain⟨k,hk⟩:∃ k,ks[n-1]?=some k:=⟨_,yb (by omega)⟩;have:=(h3 _ k hk).1 (h1 k h hk);omega
 have hge:m<=n:=by
  by_cases hl:n<ks.length
  ·obtain⟨k,hk⟩:∃ k,ks[n]?=some k:=⟨_,yb hl⟩;have h5:=h2 k hk;have h6:=h3 n k hk;rw[h5]at h6;simp at h6;omega
  omega
 obtain rfl:n=m:=by omega
 exact h4
theorem ChainJ.step (h:ChainJ ks c St L vals W) (hn:ks.Nodup) (hc:∀ k∈ks,c k=none) {n k:Nat} (hk:ks[n]?=some k) (h1:∀ j,0<n->ks[n-1]?=some j->L j=true) (h2:L k=false) {v:Value}
  (hs:St n vals W->St (n+1) (λ j=>if j=k then v else vals j) W'):ChainJ ks c St (λ j=>L j||j==k) (λ j=>if j=k then v else vals j) W':=by
 have D:=(yc.1 hk).1;have B:=h.at_ n h1 (by omega) (λ k' hk'=>by rw[hk]at hk';cases hk';exact h2);obtain⟨p1,m,hm,h3,h4⟩:=h;have A:m=n:=by
  have h5:=h3 n k hk;rw[h2]at h5;simp at h5;rcases Nat.eq_zero_or_pos n with h|h
  ·omega
  obtain⟨j,hj⟩:∃ j,ks[n-1]?=some j:=⟨_,yb (by omega)⟩;have:=(h3 _ j hj).1 (h1 j h hj);omega
 subst A;refine⟨λ j u hj hl=>?_,m+1,by omega,λ j k' hk'=>?_,hs B⟩
 ·by_cases e:j=k
  ·subst e;rw[hc j (yg hk)]at hj;cases hj
  rw[Yz e];exact p1 j u hj (by simpa[e]using hl)
 ·by_cases e:k'=k
  ·subst e;have hj:j=m:=by
    obtain⟨l1,e1⟩:=yc.1 hk;obtain⟨l2,e2⟩:=yc.1 hk';exact (List.getElem_inj hn).1 (e2.trans e1.symm)
   subst hj;simp
  have:(k'==k)=false:=by simp only[Yt,ne_eq];exact e
  rw[this,Bool.or_false,h3 j k' hk'];constructor
  ·omega
  intro C;rcases Nat.lt_or_ge j m with h|h
  ·exact h
  obtain rfl:j=m:=by omega
  rw[hk]at hk';cases hk';exact absurd rfl e
end
section
variable {P:Program}
theorem qgP {next:Value->World->Prop} {o:Oper} {x:Operand} (hop:o.op=.nilCheck x) {b:Act} {W:World} {q:Addr} (hx:b.eval x=.pointer (some q)) (hn:next (.pointer (some q)) W):loudUpon P next ((execOp b.eval o).run P W):=by
 refine zV (W':=W) (v:=.pointer (some q)) ?_ hn;unfold execOp;simp only[hop,hx];simp[go_sem]
theorem qgH {next:Value->World->Prop} {o:Oper} {x:Operand} (hop:o.op=.assign x) {b:Act} {W:World} (hn:next (b.eval x) W):loudUpon P next ((execOp b.eval o).run P W) :=
 zV (W':=W) (v:=b.eval x) (by unfold execOp;simp only[hop,yH]) hn
end
section
variable {ka kb:List Nat} {c:Nat->Option Value} {St:Nat->Nat->(Nat->Value)->World->Prop} {L:Nat->Bool} {vals:Nat->Value} {W W':World}
end
theorem zcK {rec:List Pc->Nat × List (List Pc)} {B:Nat} (hr:∀ c,(rec c).1<=B):∀ {cs:List (List Pc)} {n:Nat} {l:List (List Pc)},n<=20000->(loopT rec cs n l).1<=20000+B
 | [],n,l,h=>by simp only[loopT];omega
 | c :: cs,n,l,h=>by
  have:=hr c;unfold loopT;split
  ·simp only;omega
  exact zcK hr (by omega)
theorem qbE (t:Tk):∀ (f:Nat) (s:List Pc),(searchT t f s).1<=20000*f+1
 | 0,s=>by simp[searchT]
 | f+1,s=>by
  unfold searchT;split
  ·simp only;omega
  have:=zcK (rec:=searchT t f) (qbE t f) (cs:=qA t s) (n:=1) (l:=[]) (by omega);omega
theorem filter_lt {α:Type} {P R:α->Bool}:∀ {l:List α} {q:α},(∀ x∈l,P x=true->R x=true)->q∈l->R q=true->P q=false->(l.filter P).length<(l.filter R).length
 | a :: l,q,h,hq,h1,h2=>by
  have hle:(l.filter P).length<=(l.filter R).length:=by
   have:∀ (l:List α),(∀ x∈l,P x=true->R x=true)->(l.filter P).length<=(l.filter R).length:=by
    intro l
    induction l with
    | nil=>intro _;simp
    | cons b l ih =>
     intro hh;have:=ih λ x hx=>hh x (Yn _ hx);simp only[List.filter_cons];by_cases hb:P b=true
     ·rw[YA hb,YA (hh b (by simp) hb)];simp;omega
     rw[Yz hb];split
     ·simp;omega
     exact this
   exact this l λ x hx=>h x (Yn _ hx)
  simp only[List.filter_cons];rcases Ye.1 hq with rfl|hq
  ·rw[Yz (by simp[h2]),YA h1];simp;omega
  have:=filter_lt (λ x hx=>h x (Yn _ hx)) hq h1 h2;by_cases ha:P a=true
  ·rw[YA ha,YA (h a (by simp) ha)];simp;omega
  rw[Yz ha];split
  ·simp;omega
  exact this
theorem qfT {t:Tk} {s c:List Pc} (h:c∈qA t s):leftT t c<leftT t s:=by
 obtain⟨p,q,hp,hf,hq,hput⟩:=zaI h;obtain⟨hqg,hqs⟩:=zb6 hf;obtain⟨rfl,_⟩:=zaW hput;unfold leftT;refine filter_lt (q:=q) (λ x _ hx=>?_) hqg (by simp[hqs]) (by
  have:covT (s++[p]) q=true:=qaT.2 ⟨p,by simp,hq⟩;simp[this])
 cases hc:covT s x with
 | false=>rfl
 | true =>
  obtain⟨r,hr,hx'⟩:=qaT.1 hc;have:covT (s++[p]) x=true:=qaT.2 ⟨r,by simp[hr],hx'⟩;simp[this]at hx
theorem zhh {t:Tk} {s:List Pc} (h:fullT t s=false):0<leftT t s:=by
 obtain⟨q,hq⟩:=zds h;obtain⟨h1,h2⟩:=zb6 hq;exact List.length_pos_of_mem (List.mem_filter.2 ⟨h1,by simp[h2]⟩)
theorem qcg {rec:List Pc->Nat × List (List Pc)} {cs:List (List Pc)} {k n:Nat} {l:List (List Pc)} {c:List Pc} (h:cs[k]?=some c) :
  loopT rec (cs.drop k) n l=if 20000<n+(rec c).1 then (n+(rec c).1,l++(rec c).2)else loopT rec (cs.drop (k+1)) (n+(rec c).1) (l++(rec c).2):=by
 obtain⟨hk,he⟩:=yc.1 h;rw[List.drop_eq_getElem_cons hk,he,loopT]
theorem ze5 {t:Tk} {s:List Pc} {q:Q} (h:freeT t s=some q):qA t s=(piecesT t).flatten.filterMap λ p=>if q∈p.qs then putT t s p else none:=by
 unfold qA;rw[h];simp only
 induction (piecesT t).flatten with
 | nil=>rfl
 | cons a l ih =>
  simp only[List.filter_cons,List.filterMap_cons];by_cases ha:q∈a.qs
  ·simp only[ha,decide_true,if_true,List.filterMap_cons];split <;> simp_all
  simp only[ha,decide_false,if_false];simpa using ih
def kidT (t:Tk) (s:List Pc) (q:Q) (p:Pc):Option (List Pc):=if q∈p.qs then putT t s p else none
def kidsT (t:Tk) (s:List Pc) (q:Q) (l:List Pc):List (List Pc):=l.filterMap (kidT t s q)
theorem qc9 {t:Tk} {s:List Pc} {q:Q} (h:freeT t s=some q):kidsT t s q (piecesT t).flatten=qA t s:=(ze5 h).symm
theorem zgQ (t:Tk) (s:List Pc) (q:Q) (l:List Pc) (p:Pc):(kidsT t s q (l++[p])).length=(kidsT t s q l).length+(if (kidT t s q p).isSome then 1 else 0):=by
 unfold kidsT;rw[List.filterMap_append,yL];congr 1
 cases h:kidT t s q p <;> simp[h]
theorem qhi {t:Tk} {s:List Pc} {q:Q} {l m:List Pc} {p:Pc} {c:List Pc} (h:kidT t s q p=some c):(kidsT t s q (l++p :: m))[(kidsT t s q l).length]?=some c:=by
 unfold kidsT;rw[List.filterMap_append,List.filterMap_cons,h,yW (ye _)];simp
def upT (pss:List (List Pc)) (i j:Nat):List Pc:=(pss.take i).flatten++(pss.getD i []).take j
theorem zh2 (pss:List (List Pc)):upT pss 0 0=[]:=by simp[upT]
theorem zib {pss:List (List Pc)} {i j:Nat} {l:List Pc} {p:Pc} (h:pss[i]?=some l) (hp:l[j]?=some p):upT pss i (j+1)=upT pss i j++[p]:=by
 unfold upT;have e:pss.getD i []=l:=by rw[yu,h];rfl
 obtain⟨hj,hg⟩:=yc.1 hp;rw[e,List.take_add_one,hp,List.append_assoc];rfl
theorem zh3 {pss:List (List Pc)} {i:Nat} {l:List Pc} (h:pss[i]?=some l):upT pss i l.length=upT pss (i+1) 0:=by
 unfold upT;have e:pss.getD i []=l:=by rw[yu,h];rfl
 rw[e,Yd,yj,List.append_nil,List.take_add_one,h,List.flatten_append];simp
theorem qit (pss:List (List Pc)):upT pss pss.length 0=pss.flatten:=by unfold upT;simp
theorem qhF {pss:List (List Pc)} {i j:Nat} {l:List Pc} {p:Pc} (h:pss[i]?=some l) (hp:l[j]?=some p):∃ m,pss.flatten=upT pss i j++p :: m:=by
 obtain⟨hi,B⟩:=yc.1 h;obtain⟨hj,A⟩:=yc.1 hp;refine⟨l.drop (j+1)++(pss.drop (i+1)).flatten,?_⟩;have e:pss.getD i []=l:=by rw[yu,h];rfl
 have e1:pss=pss.take i++l :: pss.drop (i+1):=by
  have:=List.take_append_drop i pss;rw[List.drop_eq_getElem_cons hi,B]at this;exact this.symm
 have e2:l=l.take j++p :: l.drop (j+1):=by
  have:=List.take_append_drop j l;rw[List.drop_eq_getElem_cons hj,A]at this;exact this.symm
 unfold upT;rw[e];have e3:pss.flatten=(pss.take i).flatten++(l++(pss.drop (i+1)).flatten):=by
  have:=YB List.flatten e1;rwa [List.flatten_append,List.flatten_cons]at this
 have e4:l++(pss.drop (i+1)).flatten=l.take j++(p :: l.drop (j+1))++(pss.drop (i+1)).flatten:=by
  rw[<- e2]
 rw[e3,e4];simp[List.append_assoc]
theorem qim {t:Tk} {s c:List Pc} {q:Q} (hf:freeT t s=some q) {i j:Nat} {l:List Pc} {p:Pc} (h:(piecesT t)[i]?=some l) (hp:l[j]?=some p) (hc:kidT t s q p=some c) :
  (qA t s)[(kidsT t s q (upT (piecesT t) i j)).length]?=some c:=by
 obtain⟨m,hm⟩:=qhF h hp;rw[<- qc9 hf,hm];exact qhi hc
theorem zcx {t:Tk} {s:List Pc} {q:Q} {i j:Nat} {l:List Pc} {p:Pc} (h:(piecesT t)[i]?=some l) (hp:l[j]?=some p) :
  (kidsT t s q (upT (piecesT t) i (j+1))).length=(kidsT t s q (upT (piecesT t) i j)).length+(if (kidT t s q p).isSome then 1 else 0):=by
 rw[zib h hp,zgQ]
theorem qio (pss:List (List Pc)) (i j:Nat):∃ m,pss.flatten=upT pss i j++m:=by
 unfold upT
 cases h:pss[i]? with
 | none =>
  have A:=List.getElem?_eq_none_iff.1 h;refine⟨[],?_⟩;rw[yu,h];simp[List.take_of_length_le A]
 | some l =>
  obtain⟨hi,B⟩:=yc.1 h;rw[yu,h];refine⟨l.drop j++(pss.drop (i+1)).flatten,?_⟩;have e1:pss=pss.take i++l :: pss.drop (i+1):=by
   have:=List.take_append_drop i pss;rw[List.drop_eq_getElem_cons hi,B]at this;exact this.symm
  have e3:pss.flatten=(pss.take i).flatten++(l++(pss.drop (i+1)).flatten):=by
   have:=YB List.flatten e1;rwa [List.flatten_append,List.flatten_cons]at this
  rw[e3];simp only[Yw,List.append_assoc];rw[<- List.append_assoc (l.take j),List.take_append_drop]
theorem zfl {t:Tk} {s:List Pc} {q:Q} (hf:freeT t s=some q) (i j:Nat):(kidsT t s q (upT (piecesT t) i j)).length<=(qA t s).length:=by
 obtain⟨m,hm⟩:=qio (piecesT t) i j;rw[<- qc9 hf,hm];unfold kidsT;rw[List.filterMap_append,yL];omega
theorem zfv (g:List Q) (p:Pc):∀ l:List Pc,l.Pairwise (λ a b=>leastP g a<leastP g b)->(∀ r∈l,leastP g p≠leastP g r)->(insP g p l).Pairwise (λ a b=>leastP g a<leastP g b)
 | [],_,_=>by simp[insP]
 | q :: l,h,hd=>by
  unfold insP;split
  ·rename_i hlt;refine List.pairwise_cons.2 ⟨λ r hr=>?_,h⟩;rcases Ye.1 hr with rfl|hr
   ·exact hlt
   exact Nat.lt_trans hlt ((List.pairwise_cons.1 h).1 r hr)
  rename_i hge;refine List.pairwise_cons.2 ⟨λ r hr=>?_,zfv g p l (List.pairwise_cons.1 h).2 λ r hr=>hd r (Yn _ hr)⟩;rcases Ye.1 ((qbM g p l).mem_iff.1 hr)with rfl|hr
  ·have:=hd q (by simp);omega
  exact (List.pairwise_cons.1 h).1 r hr
theorem qeR (g:List Q) (l:List Pc) (h:l.Pairwise λ a b=>leastP g a≠leastP g b):(sortP g l).Pairwise (λ a b=>leastP g a<leastP g b):=by
 have:∀ (l a:List Pc),a.Pairwise (λ a b=>leastP g a<leastP g b)->l.Pairwise (λ a b=>leastP g a≠leastP g b)->(∀ x∈l,∀ y∈a,leastP g x≠leastP g y) ->
   (l.foldl (λ l p=>insP g p l) a).Pairwise (λ a b=>leastP g a<leastP g b):=by
  intro l
  induction l with
  | nil=>intro a ha _ _;exact ha
  | cons p l ih =>
   intro a ha hl hd;refine ih _ (zfv g p a ha (hd p (by simp))) (List.pairwise_cons.1 hl).2 λ x hx y hy=>?_;rcases Ye.1 ((qbM g p a).mem_iff.1 hy)with rfl|hy
   ·exact λ e=>(List.pairwise_cons.1 hl).1 x hx e.symm
   exact hd x (Yn _ hx) y hy
 exact this l [] List.Pairwise.nil h (λ _ _ _ hy=>by cases hy)
theorem za1 {g:List Q} {p:Pc} (h:∃ q∈g,q∈p.qs):∃ i q,g.findIdx? (λ q=>decide (q∈p.qs))=some i/\leastP g p=i/\g[i]?=some q/\q∈p.qs:=by
 obtain⟨q,hq,hp⟩:=h
 cases hf:g.findIdx? (λ q=>decide (q∈p.qs))with
 | none =>
  rw[List.findIdx?_eq_none_iff]at hf;have:=hf q hq;simp[hp]at this
 | some i =>
  have h2:=List.findIdx?_eq_some_iff_getElem.1 hf;obtain⟨hi,h2,_⟩:=h2;exact⟨i,g[i],rfl,by unfold leastP;rw[hf];rfl,yb hi,by simpa using h2⟩
theorem qbJ {g:List Q}:∀ {s:List Pc},ApartT s->(∀ p∈s,∃ q∈g,q∈p.qs)->s.Pairwise λ a b=>leastP g a≠leastP g b
 | [],_,_=>List.Pairwise.nil
 | p :: s,h,hin=>by
  obtain⟨h1,h2⟩:=List.pairwise_cons.1 h;refine List.pairwise_cons.2 ⟨λ r hr e=>?_,qbJ (s:=s) h2 λ p hp=>hin p (Yn _ hp)⟩;obtain⟨i,q,_,ei,gi,mi⟩:=za1 (hin p (by simp));obtain⟨j,q',_,ej,gj,mj⟩:=za1 (hin r (Yn _ hr));rw[ei,ej]at e;subst e;rw[gi]at gj
  cases gj
  exact h1 r hr q mi mj
theorem zhb {t:Tk} {L:List E} {s:List Pc} {S:HS} (h:StT t.ground L s S):S.set=2 ^ t.ground.length-1↔fullT t s=true:=by
 rw[h.set,<- qhI t.ground];unfold fullT;rw[List.all_eq_true];constructor
 ·intro hh q hq;exact zht hh q hq
 intro hh;exact qaB hh
theorem qdO (t:Tk) (s:List Pc):rightT t s=true↔(List.range t.counts.length).map (λ i:Nat=>((manyT s (i:Int):Nat):Int))=t.counts:=by
 unfold rightT;rw[List.all_eq_true];constructor
 ·intro h;refine List.ext_getElem (by simp) λ i h1 h2=>?_;have:=h (t.counts[i],i) (by
   rw[List.mem_zipIdx_iff_getElem?];exact yb h2)
  simpa using this
 intro h x hx;rw[List.mem_zipIdx_iff_getElem?]at hx;have h2:=YB (·[x.2]?) h;simp only[yQ]at h2;obtain⟨hl,hg⟩:=yc.1 hx;rw[List.getElem?_range hl,hx]at h2;simpa using h2
theorem qeZ {t:Tk} {s:List Pc} (h:fullT t s=true) (f:Nat):searchT t f s=(1,if rightT t s then [s]else []):=by
 cases f <;> simp[searchT,h]
theorem qfc {t:Tk} {s:List Pc} (h:fullT t s=false) (f:Nat):searchT t (f+1) s=loopT (searchT t f) (qA t s) 1 []:=by
 simp[searchT,h]
theorem zfE {t:Tk} {s c:List Pc} (h:GoodT t s) (hc:c∈qA t s):GoodT t c:=by
 obtain⟨p,q,hp,_,_,hput⟩:=zaI hc;exact zb5 h hp hput
end Go.Proofs.YtiinlplgloaanaaGreatDoor
