/- Bricks of a tiling in some order: their joints grow with each brick that touches. -/
import Derived.Test.YtiinlplgloaanaaGreatDoorZzLayerTouches48
set_option linter.all false
set_option maxRecDepth 100000
set_option maxHeartbeats 16000000
namespace Go.Proofs.YtiinlplgloaanaaGreatDoor
open Go.Proofs.Tryz Go.RowKit
attribute [local go_sem] Oper.semAt_some
structure PcI (w W:World) (n0 n1 np:Nat) (M:List (E × List Q)) (vs:List Value) (S:List (Q × Nat)) (u:Value) (us:List Value) (ls:List (List Q)):Prop where
 map0:HasM E.val W n0 (zipM M vs)
 each:∀ (i:Nat) (v:Value) (m:E × List Q),vs[i]?=some v->M[i]?=some m->HasQ W v m.2/\∀ k,v.ownBlock=some k->k<n1
 map1:HasM Q.val W n1 (shapeM S)
 res:OwnQQ W (n1+1) u us ls
 hi:(∀ k,u.ownBlock=some k->k<np)/\∀ (i:Nat) (x:Value),us[i]?=some x->∀ k,x.ownBlock=some k->k<np
 ord:w.heap.size<=n0/\n0<n1/\n1<np/\np<=W.heap.size
 below:Bw w W
theorem uK {W:World} {base:Nat} {v:Value} {vs:List Value} {ls:List (List Q)} (h:OwnQQ W base v vs ls):HasQQ W v ls:=by
 have A:=h.len;rcases h.row.2 with⟨rfl,B⟩|⟨g,cap,cur,rfl,h1,h2,h3,h4,h5⟩
 ·exact .inl ⟨rfl,yT.1 (by omega)⟩
 exact .inr ⟨⟨g,0,none⟩,cap,vs,by rw[A],by rw[<- A];exact h3,h4,⟨(h.row.lt g rfl).2,λ i u hu=>World.ownsRow.cells h.row (g:=g) rfl i u hu⟩,A,λ i u l hu A=>(h.each i u l hu A).has⟩
theorem OwnQ.of_block {W W':World} {base:Nat} {v:Value} {l:List Q} (h:OwnQ W base v l) (e:∀ k,v.ownBlock=some k->W'.heap[k]?=W.heap[k]?):OwnQ W' base v l:=by
 refine⟨h.1,?_⟩;rcases h.2 with h2|⟨g,cap,cur,hv,h1,h2,h3⟩
 ·exact .inl h2
 refine .inr ⟨g,cap,cur,hv,h1,?_,h3⟩;rw[e g (by rw[hv];rfl)];exact h2
theorem PcI.keep {w W W':World} {n0 n1 np:Nat} {M:List (E × List Q)} {vs:List Value} {S:List (Q × Nat)} {u:Value} {us:List Value} {ls:List (List Q)} (h:PcI w W n0 n1 np M vs S u us ls) (e:Below np W W'):PcI w W' n0 n1 np M vs S u us ls:=by
 obtain⟨C,A,B,D⟩:=h.ord;refine⟨(e.block _ (by omega)).trans h.map0,λ i v m hv hm=>⟨(h.each i v m hv hm).1.move λ k hk=>e.block _ (by have:=(h.each i v m hv hm).2 k hk;omega),(h.each i v m hv hm).2⟩,(e.block _ (by omega)).trans h.map1,
  ⟨?_,h.res.len,λ i x l hx hl=>(h.res.each i x l hx hl).of_block λ k hk=>e.block _ (h.hi.2 i x hx k hk)⟩,h.hi,⟨C,A,B,yJ D e.size⟩,h.below.trans (e.mono (by omega))⟩
 refine⟨h.res.row.1,?_⟩;rcases h.res.row.2 with h2|⟨g,cap,cur,hv,h1,h2,h3⟩
 ·exact .inl h2
 refine .inr ⟨g,cap,cur,hv,h1,?_,h3⟩;rw[e.block g (h.hi.1 g (by rw[hv];rfl))];exact h2
theorem PcI.raise {w W:World} {n0 n1 np np':Nat} {M:List (E × List Q)} {vs:List Value} {S:List (Q × Nat)} {u:Value} {us:List Value} {ls:List (List Q)} (h:PcI w W n0 n1 np M vs S u us ls) (h1:np<=np') (h2:np'<=W.heap.size):PcI w W n0 n1 np' M vs S u us ls :=
 ⟨h.map0,h.each,h.map1,h.res,⟨λ k hk=>yO (h.hi.1 k hk) h1,λ i x hx k hk=>yO (h.hi.2 i x hx k hk) h1⟩,⟨h.ord.1,h.ord.2.1,yO h.ord.2.2.1 h1,h2⟩,h.below⟩
theorem PcI.put {w W:World} {n0 n1 np:Nat} {M:List (E × List Q)} {vs:List Value} {S:List (Q × Nat)} {u:Value} {us:List Value} {ls:List (List Q)} (h:PcI w W n0 n1 np M vs S u us ls) (S':List (Q × Nat)):PcI w (putM Q.val W n1 (shapeM S')) n0 n1 np M vs S' u us ls:=by
 obtain⟨C,A,B,D⟩:=h.ord;refine⟨(zt W (by omega) _).trans h.map0,λ i v m hv hm=>⟨(h.each i v m hv hm).1.move λ k hk=>zt W (by have:=(h.each i v m hv hm).2 k hk;omega) _,(h.each i v m hv hm).2⟩,HasM.put h.map1.lt _,
  ⟨?_,h.res.len,λ i x l hx hl=>(h.res.each i x l hx hl).of_block λ k hk=>zt W (by have:=((h.res.each i x l hx hl).lt k hk).1;omega) _⟩,h.hi,⟨C,A,B,by rw[aj];exact D⟩,h.below.trans (bw W (by omega) _)⟩
 refine⟨h.res.row.1,?_⟩;rcases h.res.row.2 with h2|⟨g,cap,cur,hv,h1,h2,h3⟩
 ·exact .inl h2
 refine .inr ⟨g,cap,cur,hv,h1,?_,h3⟩;rw[zt W (by omega) _];exact h2
theorem PcI.next {w W W':World} {n0 n1 np:Nat} {M:List (E × List Q)} {vs:List Value} {S:List (Q × Nat)} {u u':Value} {us us':List Value} {ls ls':List (List Q)} (h:PcI w W n0 n1 np M vs S u us ls) (e:Below (n1+1) W W') (hr:OwnQQ W' (n1+1) u' us' ls'):PcI w W' n0 n1 W'.heap.size M vs S u' us' ls':=by
 obtain⟨C,A,F,D⟩:=h.ord;refine⟨(e.block _ (by omega)).trans h.map0,λ i v m hv hm=>⟨(h.each i v m hv hm).1.move λ k hk=>e.block _ (by have:=(h.each i v m hv hm).2 k hk;omega),(h.each i v m hv hm).2⟩,(e.block _ (by omega)).trans h.map1,hr,
  ⟨λ k hk=>(hr.row.lt k hk).2,λ i x hx k hk=>?_⟩,⟨C,A,by have:=e.size;omega,ye _⟩,h.below.trans (e.mono (by omega))⟩
 have B:i<ls'.length:=by rw[<- hr.len];exact(yc.1 hx).1
 exact((hr.each i x _ hx (yb B)).lt k hk).2
theorem eI {α:Type} {l:List α} {a:Nat} {p:α} (h:l[a]?=some p) {P:α->Prop} (h1:∀ q∈l.take a,P q) (h2:P p):∀ q∈l.take (a+1),P q:=by
 intro q hq;rw[tF h]at hq;rcases yY.1 hq with hq|hq
 ·exact h1 q hq
 rw[yU]at hq;subst hq;exact h2
def keysS (S:List (Q × Nat)):List Q:=S.map (·.1)
theorem BF {M:List (E × List Q)} {vs:List Value} (hl:vs.length=M.length) {m:E × List Q} (h:m∈M):∃ (i:Nat) (v:Value),vs[i]?=some v/\M[i]?=some m/\(m.1,v)∈zipM M vs:=by
 obtain⟨i,A,rfl⟩:=YO h;have B:i<vs.length:=by omega
 refine⟨i,vs[i],yb B,yb A,?_⟩;unfold zipM;refine yg (i:=i) ?_;rw[List.getElem?_zipWith,yb A,yb B]
theorem xJ {l:List Q} (hq:∀ q∈l,inQ q) {vs:List Value} (hl:vs.length=(ownL [] l).length) {p:Q} (hp:p∈l) {e:E} (he:e∈edgesQ p) :
  ∃ (i:Nat) (v:Value),vs[i]?=some v/\(ownL [] l)[i]?=some (e,whoE l e)/\(e,v)∈zipM (ownL [] l) vs:=by
 obtain⟨I,F,G,J⟩:=fL hq;have C:whoE l e≠[]:=λ h0=>by
  have:p∈whoE l e:=YZ.2 ⟨hp,by simpa using he⟩;rw[h0]at this;cases this
 obtain⟨m,D,A⟩:=yP.1 (G e C);have B:m=(e,whoE l e):=by
  have H:m.2=whoE l e:=(F m D).trans (by rw[A]);exact Prod.ext A H
 subst B;exact BF hl D
theorem me (S:List (Q × Nat)) (q:Q) (n:Nat):keysS (S++[(q,n)])=keysS S++[q]:=by simp[keysS]
theorem lu (S:List (Q × Nat)) (q:Q) (n:Nat) (x:Q):x∈keysS (S++[(q,n)])↔x=q\/x∈keysS S:=by
 rw[me,yY,yU];exact or_comm
theorem pf {S:List (Q × Nat)} {q:Q} (n:Nat) (h:(keysS S).Nodup) (hq:q∉keysS S):(keysS (S++[(q,n)])).Nodup:=by
 rw[me];refine ko.2 ⟨h,by simp,λ a ha b hb e=>?_⟩;rw[yU]at hb;subst hb e;exact hq ha
theorem pw (S:List (Q × Nat)) (q:Q) (n:Nat):shapeM S++[(q,.int .i64 n)]=shapeM (S++[(q,n)]):=by simp[shapeM]
structure PcP (l:List Q) (w W:World) (n0 n1 np:Nat) (vs:List Value) (S:List (Q × Nat)) (u:Value) (us:List Value) (ls:List (List Q)) (i:Nat) (q:Q) (pv:Value) (part:List Q) (j:Nat):Prop where
 pc:PcI w W n0 n1 np (ownL [] l) vs S u us ls
 keys:(keysS S).Nodup
 own:OwnQ W np pv part
 pt:PartI l i q (keysS S) part
 done:DoneE l part j
 le:j<=part.length
theorem PcP.keep {l:List Q} {w W W':World} {n0 n1 np:Nat} {vs:List Value} {S:List (Q × Nat)} {u:Value} {us:List Value} {ls:List (List Q)} {i:Nat} {q:Q} {pv:Value} {part:List Q} {j:Nat} (h:PcP l w W n0 n1 np vs S u us ls i q pv part j) (e:Bw W W'):PcP l w W' n0 n1 np vs S u us ls i q pv part j :=
 ⟨h.pc.keep (e.mono h.pc.ord.2.2.2),h.keys,h.own.below e,h.pt,h.done,h.le⟩
theorem PcP.short {l:List Q} {w W:World} {n0 n1 np:Nat} {vs:List Value} {S:List (Q × Nat)} {u:Value} {us:List Value} {ls:List (List Q)} {i:Nat} {q:Q} {pv:Value} {part:List Q} {j:Nat} (h:PcP l w W n0 n1 np vs S u us ls i q pv part j):part.length<=l.length :=
 aY h.pt.nodup λ x hx=>(h.pt.conn x hx).right
theorem PcP.inl {l:List Q} {w W:World} {n0 n1 np:Nat} {vs:List Value} {S:List (Q × Nat)} {u:Value} {us:List Value} {ls:List (List Q)} {i:Nat} {q:Q} {pv:Value} {part:List Q} {j:Nat} (h:PcP l w W n0 n1 np vs S u us ls i q pv part j):∀ x∈keysS S,x∈l:=λ x hx=>by
 rcases (h.pt.keys x).1 hx with⟨_,_,_,_,hc⟩|hx
 ·exact hc.right
 exact(h.pt.conn x hx).right
theorem PcP.grow {l:List Q} {w W W':World} {n0 n1 np:Nat} {vs:List Value} {S:List (Q × Nat)} {u:Value} {us:List Value} {ls:List (List Q)} {i:Nat} {q:Q} {pv pv':Value} {part:List Q} {j:Nat} (h:PcP l w W n0 n1 np vs S u us ls i q pv part j)
  {r p:Q} (hp:p∈part) (hr:r∈l) (hs:shareE p r) (hK:r∉keysS S) (n:Nat) (hpc:PcI w W' n0 n1 np (ownL [] l) vs (S++[(r,n)]) u us ls) (ho:OwnQ W' np pv' (part++[r])):PcP l w W' n0 n1 np vs (S++[(r,n)]) u us ls i q pv' (part++[r]) j :=
 ⟨hpc,pf n h.keys hK,ho,h.pt.add hp hr hs hK (lu S r n),h.done.snoc h.le,by rw[yL];have:=h.le;omega⟩
theorem xl {l:List Q} {p r:Q} {e:E} (he:e∈edgesQ p) (hr:r∈whoE l e):r∈l/\shareE p r:=by
 obtain⟨h1,h2⟩:=YZ.1 hr;exact⟨h1,e,he,by simpa using h2⟩
theorem OwnQ.ptr {W:World} {base:Nat} {p:Option Addr} {n c:Nat} {l:List Q} (h:OwnQ W base (.slice p n c) l) (hl:l≠[]):∃ g,p=some ⟨g,0,none⟩:=by
 rcases h.2 with⟨_,A⟩|⟨g,cap,cur,hv,_⟩
 ·exact kV (yT.1 A) hl
 simp only[yC]at hv;exact⟨g,hv.1⟩
theorem Cm {l m:List Q} (hl:Srt l) (h1:m.Pairwise λ a b=>¬ Q.lt b a) (h2:m.Nodup) (h3:∀ q∈m,q∈l):m.Sublist l:=by
 have A:Srt m:=by
  refine List.Pairwise.imp₂ (λ a b hab hne=>?_) h1 h2;rcases Q.lt_total a b with h|h|h
  ·exact h
  ·exact kV h hne
  exact kV h hab
 have:m=l.filter (λ q=>decide (q∈m)):=de A (hl.sublist List.filter_sublist) λ q=>by
  rw[YZ,yS];exact⟨λ h=>⟨h3 q h,h⟩,λ h=>h.2⟩
 rw[this];exact List.filter_sublist
theorem sF (l:List Q) (v:Value) (w:World) (hv:HasQ w v l) :
  Calls Tryz.prog 35 #[v] w λ e w'=>∃ u ls,e=.returned (.tuple #[u,.int .i64 (checkN l)])/\HasQQ w' u ls/\(checkN l≠0->ls=[])/\(checkN l=0->IsPieces l l.length ls)/\Below w.heap.size w w':=by
 obtain⟨vp,vc,rfl⟩:=hv.slice;have HV:=yK hv;clear hv;have G9:=@run_makeMap Tryz.prog;go_enter func35,ntmps35;go_wp2_with fail;refine(check_any l _ w HV.o).mono ?_;rintro e w1 ⟨rfl,G3⟩;have B3:=yK G3;clear G3;by_cases hc:checkN l=0
 case neg =>
  have E8:((checkN l:Int) != 0)=true:=by simpa using hc
  have HC:Hid (checkN l≠0):=yK hc;clear hc;go_wp2_with fail;go_ret2;exact⟨.slice none 0 0,[],rfl,.inl ⟨rfl,rfl⟩,λ _=>rfl,λ h=>kV h HC.o,B3.o⟩
 have E8:((checkN l:Int) != 0)=false:=by simpa using hc
 have HC:=yK hc;have M:=yK (qj hc);rw[hc];clear hc;have H4:l.length<=400:=M.o.2.2;obtain⟨sa,rfl,G5⟩:∃ a,vp=some a/\QsAt w a l:=by
  rcases HV.o with⟨_,h⟩|⟨a,c,h1,_,_,h2⟩
  ·exact kV h M.o.2.1
  simp only[yC]at h1;exact⟨a,h1.1,h2⟩
 have G7:=yK G5;clear G5;have L:Below w1.heap.size w1 (w1.alloc (.map #[] 0)):=(yf _ w1).alloc (ye _) _;have hG:Grp (w1.alloc (.map #[] 0)) w1.heap.size (w1.heap.size+1) [] []:=⟨yd w1 _,rfl,λ m hm=>(by cases hm),List.nodup_nil,λ i v m hv _=>(by simp at hv),λ i j u v _ hu _=>(by simp at hu)⟩;have D1:=yK (ic w1.heap.size (w1.heap.size+1) 0 [] [] l (.slice (some sa) l.length vc) (w1.alloc (.map #[] 0)) hG (by rw[yp];exact ye _) ((HV.o.below B3.o).below L)
  (λ b hb=>by have:=(HV.o.below B3.o).own_lt M.o.2.1 b hb;exact⟨by omega,by omega⟩) M.o.1.1 (λ m hm=>by cases hm) (by omega))
 clear L hG;go_wp2_with fail;refine D1.o.mono ?_;rintro e w2 ⟨rfl,⟨vs,Z⟩,_,B1⟩;have F9:Below w.heap.size w w2:=by
  have h0:Below w1.heap.size w1 w2:=((yf _ w1).alloc (ye _) _).trans (B1.below (by omega) (ye _));exact B3.o.tm h0
 have A2:Below w2.heap.size w2 (w2.alloc (.map #[] 0)):=(yf _ w2).alloc (ye _) _;have C3:Hid (vs.length=(ownL [] l).length/\(∀ m∈ownL [] l,okE m.1)/\((ownL [] l).map (·.1)).Nodup):=yK ⟨Z.len,Z.ok,Z.keys⟩;have H0:Hid (PcI w (w2.alloc (.map #[] 0)) w1.heap.size w2.heap.size (w2.alloc (.map #[] 0)).heap.size (ownL [] l) vs [] (.slice none 0 0) [] []):=yK
  ⟨(A2.block _ Z.map.lt).trans Z.map,λ i v m hv hm=>⟨((Z.each i v m hv hm).below A2).has,λ k hk=>((Z.each i v m hv hm).lt k hk).2⟩,yd w2 _,OwnQQ.nil _ _,⟨λ k hk=>(by cases hk),λ i x hx=>(by simp at hx)⟩,
   ⟨B3.o.size,Z.map.lt,by rw[yp];omega,ye _⟩,F9.tm A2⟩
 clear Z B1 D1 F9 A2 E8;go_wp2_with fail;clear G9;revert H0;generalize w2.alloc (.map #[] 0)=W0;generalize w1.heap.size=n0;generalize w2.heap.size=n1;intro H0;go_loopw [7,33] (λ u z wr=>∃ (i:Nat) (D:List Value) (ls:List (List Q)) (S:List (Q × Nat)),i<=l.length/\ls.length<=i/\z=.int .i64 i/\Hid (PcI w wr n0 n1 wr.heap.size (ownL [] l) vs S u D ls/\(keysS S).Nodup/\(∀ q,q∈keysS S↔SeenQ l i q)/\IsPieces l i ls)) (λ _ z _=>l.length-(intOf z).toNat)
 case atStart=>exact⟨0,[],[],[],by omega,by simp,rfl,yK ⟨H0.o,by simp[keysS],λ q=>⟨λ h=>by simp[keysS]at h,λ ⟨j,_,h,_⟩=>by omega⟩,BT l⟩⟩
 case round =>
  clear H0;obtain⟨i,D,ls,S,hi,I5,rfl,C⟩:=hrel;obtain⟨up,uc,rfl⟩:=zf C.o.1.res.row;have F5:D.length=ls.length:=C.o.1.res.len;by_cases hlt:i<l.length
  ·obtain⟨q,A3⟩:∃ q,l[i]?=some q:=⟨_,yb hlt⟩;have J:=G7.o.below C.o.1.below;have c0:=J.at0 i q A3;have c1:=J.at1 i q A3;have c2:=J.at2 i q A3;have B5:=yK A3;have F3:=yK (M.o.1.1 q (yg A3));have H6:=yK F5;have H1:Hid (∀ x∈keysS S,x∈l):=yK (λ x hx=>by obtain⟨_,_,_,_,hc⟩:=(C.o.2.2.1 x).1 hx;exact hc.right);clear J A3 F5;obtain⟨x,y,s⟩:=q;simp only at c0 c1 c2;go_upto_region 11 with(fail);have L:Below wr.heap.size wr (wr.alloc (.cells #[.int .i64 x,.int .i64 y,.int .i64 s] 56)):=Below.alloc (yf _ wr) (ye _) _;have f:=(C.o.1.keep L).raise (np':=(wr.alloc (.cells #[.int .i64 x,.int .i64 y,.int .i64 s] 56)).heap.size) L.size (ye _);have G:(wr.alloc (.cells #[.int .i64 x,.int .i64 y,.int .i64 s] 56)).heap[wr.heap.size]?=some (.cells #[.int .i64 x,.int .i64 y,.int .i64 s] 56):=yd wr _;have A8:n1<wr.heap.size:=C.o.1.ord.2.2.1;have d:=yK C.o.2;clear L C c0 c1 c2;revert f G A8;generalize wr.alloc (.cells #[.int .i64 x,.int .i64 y,.int .i64 s] 56)=W5;generalize wr.heap.size=rb;intro f G A8;have d0:W5.cell? ⟨rb,0,none⟩=some (.int .i64 x):=(by simp[World.cell?,G]);have d1:W5.cell? ⟨rb,1,none⟩=some (.int .i64 y):=(by simp[World.cell?,G]);have d2:W5.cell? ⟨rb,2,none⟩=some (.int .i64 s):=(by simp[World.cell?,G]);have N:∀ p∈shapeM S,inQ p.1:=λ p hp=>by
    have h1:p.1∈(shapeM S).map (·.1):=yP.2 ⟨p,hp,rfl⟩;rw[zW]at h1;exact M.o.1.1 _ (H1.o _ h1)
   have A1:((shapeM S).map (·.1)).Nodup:=(by rw[zW];exact d.o.1);by_cases hmem:(⟨x,y,s⟩:Q)∈keysS S
   ·have B:=zB encQ underlying139 f.map1 N A1 (eg (dG hmem)) true;unfold Q.val at B;simp only[ite_true]at B;have HN:Hid (PcI w W5 n0 n1 W5.heap.size (ownL [] l) vs S (.slice up D.length uc) D ls/\(keysS S).Nodup/\(∀ q,q∈keysS S↔SeenQ l (i+1) q)/\IsPieces l (i+1) ls):=yK
     ⟨f,d.o.1,λ q=>(d.o.2.1 q).trans (Ax B5.o ((d.o.2.1 _).1 hmem) q).symm,rM d.o.2.2 B5.o (λ h=>iq.1 h ((d.o.2.1 _).1 hmem))⟩
    clear hmem N A1 f G;go_wp2_with fail
    go_roundw
    case rel=>exact⟨i+1,D,ls,S,by omega,by omega,by go_num,HN⟩
    case measure=>simp[intOf];omega
   have I:∀ p∈shapeM S,p.1≠(⟨x,y,s⟩:Q):=λ p hp e=>hmem (by
    have h1:p.1∈(shapeM S).map (·.1):=yP.2 ⟨p,hp,rfl⟩;rw[zW,e]at h1;exact h1)
   have B:=zN encQ underlying139 (zeroValue3 W5) f.map1 N F3.o I true;have O:=zY encQ underlying139 f.map1 N F3.o I (.int .i64 D.length);rw[pw]at O;have B8:=f.put (S++[(⟨x,y,s⟩,D.length)]);have A7:(putM Q.val W5 n1 (shapeM (S++[(⟨x,y,s⟩,D.length)]))).heap[rb]?=some (.cells #[.int .i64 x,.int .i64 y,.int .i64 s] 56):=(zt W5 (by omega) _).trans G;have F6:W5.heap.size=(putM Q.val W5 n1 (shapeM (S++[(⟨x,y,s⟩,D.length)]))).heap.size:=(aj _ _ _).symm;rw[F6]at B8;clear F6;revert O B8 A7;generalize putM Q.val W5 n1 (shapeM (S++[(⟨x,y,s⟩,D.length)]))=W6;intro O B8 A7;have e0:W6.cell? ⟨rb,0,none⟩=some (.int .i64 x):=(by simp[World.cell?,A7]);have e1:W6.cell? ⟨rb,1,none⟩=some (.int .i64 y):=(by simp[World.cell?,A7]);have e2:W6.cell? ⟨rb,2,none⟩=some (.int .i64 s):=(by simp[World.cell?,A7]);have C9:Below W6.heap.size W6 (W6.alloc (.cells #[.int .i64 x,.int .i64 y,.int .i64 s] 56)):=Below.alloc (yf _ W6) (ye _) _;have B7:Hid (PcP l w (W6.alloc (.cells #[.int .i64 x,.int .i64 y,.int .i64 s] 56)) n0 n1 W6.heap.size vs (S++[(⟨x,y,s⟩,D.length)]) (.slice up D.length uc) D ls i ⟨x,y,s⟩ (.slice (some ⟨W6.heap.size,0,none⟩) 1 1) [⟨x,y,s⟩] 0):=yK
    ⟨B8.keep C9,pf _ d.o.1 hmem,⟨by simp[qCells,qVals],.inr ⟨W6.heap.size,1,_,rfl,ye _,yd W6 _,ye _,by decide,rfl,rfl⟩⟩,
     PartI.start B5.o d.o.2.1 hmem (lu S _ _),λ q hq=>(by simp at hq),YB _⟩
   unfold Q.val at B O;simp only[ite_true]at B;clear hmem N A1 f B8 G A7 I C9 A8;go_wp2_with fail;clear B O d0 d1 d2 e0 e1 e2;revert B7;generalize W6.alloc (.cells #[.int .i64 x,.int .i64 y,.int .i64 s] 56)=W7;generalize W6.heap.size=np;intro B7;go_loopw [13,14] (λ pv z wr=>∃ (j:Nat) (A:List Q) (S:List (Q × Nat)),j<=A.length/\A.length<=l.length/\z=.int .i64 j/\Hid (PcP l w wr n0 n1 np vs S (.slice up D.length uc) D ls i ⟨x,y,s⟩ pv A j)) (λ _ z _=>l.length-(intOf z).toNat)
   case atStart=>exact⟨0,_,_,by omega,B7.o.short,rfl,B7⟩
   clear B7;obtain⟨j,A,K,hj,I2,rfl,C⟩:=hrel;obtain⟨pp,pc,rfl⟩:=zf C.o.own;have A6:A≠[]:=λ e=>by have:=C.o.pt.first;rw[e]at this;cases this
   obtain⟨gp,rfl⟩:=C.o.own.ptr A6;clear A6;by_cases hjl:j<A.length
   ·obtain⟨p,A5⟩:∃ p,A[j]?=some p:=⟨_,yb hjl⟩;have J:=C.o.own.qsAt;have c0:=J.at0 j p A5;have c1:=J.at1 j p A5;have c2:=J.at2 j p A5;have G4:=yK (C.o.pt.conn p (yg A5)).right;have H2:=yK (M.o.1.1 p G4.o);have F4:=yK A5;clear J A5;obtain⟨px,py,ps⟩:=p;simp only[qW]at c0 c1 c2;go_wp2_with fail;refine(lO ⟨px,py,ps⟩ H2.o wr).mono ?_;rintro e w8 ⟨rfl,F8⟩;have E9:=yK (C.o.keep F8);clear F8 C c0 c1 c2;go_wp2_with fail;go_loopw [13,62] (λ pv z wr=>∃ (n:Nat) (A:List Q) (S:List (Q × Nat)),n<=3/\z=.int .i64 n/\Hid (PcP l w wr n0 n1 np vs S (.slice up D.length uc) D ls i ⟨x,y,s⟩ pv A j/\A[j]?=some ⟨px,py,ps⟩/\∀ e∈(edgesQ ⟨px,py,ps⟩).take n,∀ r∈whoE l e,r∈A)) (λ _ z _=>3-(intOf z).toNat)
    case atStart=>exact⟨0,A,K,by omega,rfl,yK ⟨E9.o,F4.o,λ e he=>by simp at he⟩⟩
    clear E9 F4;obtain⟨n,A,K,hn,rfl,C⟩:=hrel;obtain⟨pp,pc,rfl⟩:=zf C.o.1.own;by_cases hn3:n<3
    ·obtain⟨ed,D5,G1⟩:=jj ⟨px,py,ps⟩ n hn3 wr;have E7:=yK D5;obtain⟨ie,ve,E3,B6,C6⟩:=xJ M.o.1.1 C3.o.1 G4.o (yg D5);clear D5;obtain⟨ex,ey,ek⟩:=ed;obtain⟨row,C4⟩:∃ row,whoE l ⟨ex,ey,ek⟩=row:=⟨_,rfl⟩;have I1:row.length<=400:=by
      have:(whoE l ⟨ex,ey,ek⟩).length<=l.length:=Ka _ _;rw[C4]at this;omega
     rw[C4]at B6;have F2:=yK C4;clear C4;have G2:Hid (∀ (W:World) (S:List (Q × Nat)),PcI w W n0 n1 np (ownL [] l) vs S (.slice up D.length uc) D ls->HasQ W ve row):=yK (λ W S h=>(h.each ie ve _ E3 B6).1);obtain⟨H5,I3,rfl⟩:=(G2.o wr _ C.o.1.pc).slice;clear E3 B6;unfold E.val at G1;have e3:decide ((n:Int)<3)=true:=yw (by omega);go_upto_region 22 with(fail);have L:Below wr.heap.size wr (wr.alloc (.cells #[.int .i64 ex,.int .i64 ey,.int .i64 ek] 61)):=Below.alloc (yf _ wr) (ye _) _;have B4:=YP (C.o.1.keep L) C.o.2;have G:(wr.alloc (.cells #[.int .i64 ex,.int .i64 ey,.int .i64 ek] 61)).heap[wr.heap.size]?=some (.cells #[.int .i64 ex,.int .i64 ey,.int .i64 ek] 61):=yd wr _;clear L C G1 e3;revert B4 G;generalize wr.alloc (.cells #[.int .i64 ex,.int .i64 ey,.int .i64 ek] 61)=W5;generalize wr.heap.size=rb5;intro B4 G;have d0:W5.cell? ⟨rb5,0,none⟩=some (.int .i64 ex):=(by simp[World.cell?,G]);have d1:W5.cell? ⟨rb5,1,none⟩=some (.int .i64 ey):=(by simp[World.cell?,G]);have d2:W5.cell? ⟨rb5,2,none⟩=some (.int .i64 ek):=(by simp[World.cell?,G]);have B:=zB encE underlying130 B4.1.pc.map0 (λ p hp=>by obtain⟨m,hm,B6⟩:=fA hp;rw[<- B6];exact C3.o.2.1 m hm) (by rw[nr C3.o.1];exact C3.o.2.2) C6 false;unfold E.val at B;simp only[Yn,if_false]at B;have C0:=yK B4;clear C6 G B4;go_wp2_with fail;clear B d0 d1 d2;go_loopw [13,69] (λ pv z wr=>∃ (m:Nat) (A:List Q) (S:List (Q × Nat)),m<=row.length/\z=.int .i64 m/\Hid (PcP l w wr n0 n1 np vs S (.slice up D.length uc) D ls i ⟨x,y,s⟩ pv A j/\A[j]?=some ⟨px,py,ps⟩/\(∀ e∈(edgesQ ⟨px,py,ps⟩).take n,∀ r∈whoE l e,r∈A)/\∀ r∈row.take m,r∈A)) (λ _ z _=>row.length-(intOf z).toNat)
     case atStart=>exact⟨0,A,K,by omega,rfl,yK ⟨C0.o.1,C0.o.2.1,C0.o.2.2,λ r hr=>by simp at hr⟩⟩
     clear C0;obtain⟨m,A,K,hm,rfl,C⟩:=hrel;obtain⟨pp,pc,rfl⟩:=zf C.o.1.own;by_cases hmr:m<row.length
     ·obtain⟨r,A4⟩:∃ r,row[m]?=some r:=⟨_,yb hmr⟩;obtain⟨av,rfl,J⟩:∃ a,H5=some a/\QsAt wr a row:=by
       rcases G2.o wr _ C.o.1.pc with⟨_,h⟩|⟨a,c,h1,_,_,h2⟩
       ·rw[h]at hmr;cases hmr
       simp only[yC]at h1;exact⟨a,h1.1,h2⟩
      have c0:=J.at0 m r A4;have c1:=J.at1 m r A4;have c2:=J.at2 m r A4;have D3:=xl (yg E7.o) (by rw[F2.o];exact yg A4:r∈whoE l ⟨ex,ey,ek⟩);have C1:=yK D3;have F1:=yK (M.o.1.1 r D3.1);have E5:=yK A4;clear J A4 D3;obtain⟨T,R,P⟩:=r;simp only at c0 c1 c2;go_upto_region 25 with(fail);have L:Below wr.heap.size wr (wr.alloc (.cells #[.int .i64 T,.int .i64 R,.int .i64 P] 56)):=Below.alloc (yf _ wr) (ye _) _;have F:=C.o.1.keep L;have A0:(wr.alloc (.cells #[.int .i64 T,.int .i64 R,.int .i64 P] 56)).heap[wr.heap.size]?=some (.cells #[.int .i64 T,.int .i64 R,.int .i64 P] 56):=yd wr _;have A8:n1<wr.heap.size:=(by have:=C.o.1.pc.ord;omega);have X:=yK C.o.2;clear L C c0 c1 c2;revert F A0 A8;generalize wr.alloc (.cells #[.int .i64 T,.int .i64 R,.int .i64 P] 56)=W9;generalize wr.heap.size=rb9;intro F A0 A8;have d0:W9.cell? ⟨rb9,0,none⟩=some (.int .i64 T):=(by simp[World.cell?,A0]);have d1:W9.cell? ⟨rb9,1,none⟩=some (.int .i64 R):=(by simp[World.cell?,A0]);have d2:W9.cell? ⟨rb9,2,none⟩=some (.int .i64 P):=(by simp[World.cell?,A0]);have N:∀ p∈shapeM K,inQ p.1:=λ p hp=>by
       have h1:p.1∈(shapeM K).map (·.1):=yP.2 ⟨p,hp,rfl⟩;rw[zW]at h1;exact M.o.1.1 _ (F.inl _ h1)
      have A1:((shapeM K).map (·.1)).Nodup:=(by rw[zW];exact F.keys);by_cases hmem:(⟨T,R,P⟩:Q)∈keysS K
      ·have B:=zB encQ underlying139 F.pc.map1 N A1 (eg (dG hmem)) true;unfold Q.val at B;simp only[ite_true]at B;have HN:Hid (PcP l w W9 n0 n1 np vs K (.slice up D.length uc) D ls i ⟨x,y,s⟩ (.slice pp A.length pc) A j/\A[j]?=some ⟨px,py,ps⟩/\(∀ e∈(edgesQ ⟨px,py,ps⟩).take n,∀ r∈whoE l e,r∈A)/\∀ r∈row.take (m+1),r∈A):=yK
        ⟨F,X.o.1,X.o.2.1,eI E5.o X.o.2.2 (F.pt.had (yg X.o.1) C1.o.1 C1.o.2 hmem)⟩
       clear hmem N A1 F A0;go_wp2_with fail;clear B d0 d1 d2
       go_roundw
       case rel=>exact⟨m+1,A,K,by omega,by go_num,HN⟩
       case measure=>simp[intOf];omega
      have I:∀ p∈shapeM K,p.1≠(⟨T,R,P⟩:Q):=λ p hp e=>hmem (by
       have h1:p.1∈(shapeM K).map (·.1):=yP.2 ⟨p,hp,rfl⟩;rw[zW,e]at h1;exact h1)
      have B:=zN encQ underlying139 (zeroValue3 W9) F.pc.map1 N F1.o I true;have O:=zY encQ underlying139 F.pc.map1 N F1.o I (.int .i64 D.length);rw[pw]at O;have g:=F.pc.put (K++[(⟨T,R,P⟩,D.length)]);have t:OwnQ (putM Q.val W9 n1 (shapeM (K++[(⟨T,R,P⟩,D.length)]))) np (.slice pp A.length pc) A:=F.own.of_block λ k hk=>zt W9 (by have:=(F.own.lt k hk).1;have:=F.pc.ord;omega) _;have V:(putM Q.val W9 n1 (shapeM (K++[(⟨T,R,P⟩,D.length)]))).heap[rb9]?=some (.cells #[.int .i64 T,.int .i64 R,.int .i64 P] 56):=(zt W9 (by omega) _).trans A0;have D6:=yK F;have H3:=yK hmem;clear F hmem;revert O g t V;generalize putM Q.val W9 n1 (shapeM (K++[(⟨T,R,P⟩,D.length)]))=W10;intro O g t V;have e0:W10.cell? ⟨rb9,0,none⟩=some (.int .i64 T):=(by simp[World.cell?,V]);have e1:W10.cell? ⟨rb9,1,none⟩=some (.int .i64 R):=(by simp[World.cell?,V]);have e2:W10.cell? ⟨rb9,2,none⟩=some (.int .i64 P):=(by simp[World.cell?,V]);have H9:A.length<=400:=(by have:=D6.o.short;omega);have B9:np<=W10.heap.size:=g.ord.2.2.2;have C7:=yK g;have F0:=yK t;unfold Q.val at B O;simp only[ite_true]at B;have E1:Hid (A.length+1<=maxLen):=yK (by simp only[maxLen];omega);have D9:Hid ((A.length+1)*24<=140737488355328):=yK (by omega);have U:Hid (W10.ownsRow np 56 3 (.slice pp A.length pc) A.length (qCells A)):=yK t;obtain⟨iQ,D4,D7,E0,D8⟩:=info_parts infoQ;clear N A1 A0 V I g t;go_wp2_with (first
       | (at_builtin;refine wpList_append_own _ rfl _ _ 22 rfl np 56 iQ _ 3 24 underlying22 D4 D7 E0 D8 rfl (by decide) (.slice pp A.length pc) A.length (qCells A) rfl (U.o.alloc _) ⟨W10.heap.size,0,none⟩ 1 1 (qVals ⟨T,R,P⟩) rfl rfl (bC ⟨T,R,P⟩) (aV _) E1.o D9.o (by rw[yp];omega) ?_;intro v' w4 H hgrow _;obtain⟨C2,C5,rfl⟩:=zf H))
      have A9:W10.grownBy w4 (Value.slice pp A.length pc).ownBlock:=⟨hgrow.os,hgrow.tape,hgrow.output,yJ (by simp) hgrow.size,λ k hk A6=>(hgrow.block k (by simp;omega) A6).trans (Below.heap_alloc _ _ _ hk)⟩;have B0:Below np W10 w4:=(yf np W10).grown A9 B9 (λ k hk=>(U.o.lt k hk).1);have E4:OwnQ w4 np (.slice C2 (A.length+1) C5) (A++[⟨T,R,P⟩]):=by
       unfold OwnQ;rw[aw,yL];exact H
      have HN:Hid (PcP l w w4 n0 n1 np vs (K++[(⟨T,R,P⟩,D.length)]) (.slice up D.length uc) D ls i ⟨x,y,s⟩ (.slice C2 (A.length+1) C5) (A++[⟨T,R,P⟩]) j/\(A++[⟨T,R,P⟩])[j]?=some ⟨px,py,ps⟩/\(∀ e∈(edgesQ ⟨px,py,ps⟩).take n,∀ r∈whoE l e,r∈A++[⟨T,R,P⟩])/\∀ r∈row.take (m+1),r∈A++[⟨T,R,P⟩]):=yK
       ⟨D6.o.grow (yg X.o.1) C1.o.1 C1.o.2 H3.o D.length (C7.o.keep B0) E4,by rw[yX (yc.1 X.o.1).1];exact X.o.1,
        λ e he r hr=>List.mem_append_left _ (X.o.2.1 e he r hr),eI E5.o (λ r hr=>List.mem_append_left _ (X.o.2.2 r hr)) (by simp)⟩
      clear A9 B0 E4 H hgrow B O d0 d1 d2 e0 e1 e2 C7 F0 U D6
      go_roundw
      case rel=>exact⟨m+1,_,_,by omega,by go_num,HN⟩
      case measure=>simp[intOf];omega
     obtain rfl:m=row.length:=(by omega);have HN:Hid (PcP l w wr n0 n1 np vs K (.slice up D.length uc) D ls i ⟨x,y,s⟩ (.slice pp A.length pc) A j/\A[j]?=some ⟨px,py,ps⟩/\∀ e∈(edgesQ ⟨px,py,ps⟩).take (n+1),∀ r∈whoE l e,r∈A):=yK
      ⟨C.o.1,C.o.2.1,eI E7.o C.o.2.2.1 (by rw[F2.o];have:=C.o.2.2.2;rwa [Yc]at this)⟩
     clear C;go_wp2_with fail
     go_roundw
     case rel=>exact⟨n+1,A,K,by omega,by go_num,HN⟩
     case measure=>simp[intOf];omega
    obtain rfl:n=3:=(by omega);have HN:Hid (PcP l w wr n0 n1 np vs K (.slice up D.length uc) D ls i ⟨x,y,s⟩ (.slice pp A.length pc) A (j+1)):=yK (by
     have h:=C.o;refine⟨h.1.pc,h.1.keys,h.1.own,h.1.pt,eI h.2.1 h.1.done ?_,(yc.1 h.2.1).1⟩;rintro r hr ⟨e,e1,e2⟩;exact h.2.2 e (by rw[kM (by rw[BY];exact ye _)];exact e1) r (YZ.2 ⟨hr,by simpa using e2⟩))
    have I0:j+1<=A.length:=HN.o.le;have G6:A.length<=l.length:=HN.o.short;clear C;go_wp2_with fail
    go_roundw
    case rel=>exact⟨j+1,A,K,I0,G6,by go_num,HN⟩
    case measure=>simp[intOf];omega
   obtain rfl:j=A.length:=(by omega);have H9:A.length<=400:=(by omega);have B9:np<=wr.heap.size:=C.o.pc.ord.2.2.2;have C8:=yK (sR np gp pc A wr C.o.own B9 (by omega));have H8:=yK (C.o.own.lt gp rfl).1;go_wp2_with fail;refine C8.o.mono ?_;rintro e w9 ⟨rfl,l',Y,D0,H,D2,B1⟩;rw[D2]at H;have B2:=C.o.pc.keep (B1.below B9 H8.o);have H7:=yK (BZ d.o.2.2 B5.o (iq.2 C.o.pt.lead) (Cm M.o.1.2 D0 (Y.nodup_iff.2 C.o.pt.nodup) (λ q hq=>(C.o.pt.conn q (Y.mem_iff.1 hq)).right)) (λ q=>Y.mem_iff.trans (C.o.pt.closed C.o.done q)));have E2:Hid ((keysS K).Nodup/\∀ q,q∈keysS K↔SeenQ l (i+1) q):=yK ⟨C.o.keys,C.o.pt.stop B5.o C.o.done⟩;have F7:=yK B2;have G8:=yK (OwnQ.mono H (by have:=B2.ord;omega:n1+1<=np));have U:Hid (w9.ownsRow (n1+1) 22 1 (.slice up D.length uc) D.length D):=yK (by have:=B2.res.row;exact this);have E6:n1+1<=w9.heap.size:=(by have:=B2.ord;omega);clear B2 H B1 Y D0 C8 C;have I4:D.length<=400:=(by have:=H6.o;omega);have E1:Hid (D.length+1<=maxLen):=yK (by simp only[maxLen];omega);have D9:Hid ((D.length+1)*24<=140737488355328):=yK (by omega);obtain⟨iQ,D4,D7,E0,D8⟩:=info_parts infoQs;go_wp2_with (first
    | (at_builtin;refine wpList_append_own _ rfl _ _ 29 rfl (n1+1) 22 iQ _ 1 24 underlying29 D4 D7 E0 D8 rfl (by decide) (.slice up D.length uc) D.length D rfl (U.o.alloc _) ⟨w9.heap.size,0,none⟩ 1 1 [.slice (some ⟨gp,0,none⟩) A.length pc] rfl rfl (CS _ _ _) (by simp[Value.oneCell']) E1.o D9.o (by rw[yp];omega) ?_;intro v' w4 hown4 hgrow _;obtain⟨C2,C5,rfl⟩:=zf hown4))
   have G0:=F7.o.res.snoc G8.o hown4 hgrow;have A9:w9.grownBy w4 (Value.slice up D.length uc).ownBlock:=⟨hgrow.os,hgrow.tape,hgrow.output,yJ (by simp) hgrow.size,λ k hk A6=>(hgrow.block k (by simp;omega) A6).trans (Below.heap_alloc _ _ _ hk)⟩;have B0:Below (n1+1) w9 w4:=(yf (n1+1) w9).grown A9 E6 (λ k hk=>(U.o.lt k hk).1);have HN:Hid (PcI w w4 n0 n1 w4.heap.size (ownL [] l) vs K (.slice C2 (D.length+1) C5) (D++[.slice (some ⟨gp,0,none⟩) A.length pc]) (ls++[l'])/\(keysS K).Nodup/\(∀ q,q∈keysS K↔SeenQ l (i+1) q)/\IsPieces l (i+1) (ls++[l'])):=yK ⟨F7.o.next B0 G0,E2.o.1,E2.o.2,H7.o⟩;clear G0 A9 B0 hown4 hgrow
   go_roundw
   case rel=>exact⟨i+1,_,_,K,by omega,by rw[yL,List.length_singleton];omega,by go_num,HN⟩
   case measure=>simp[intOf];omega
  obtain rfl:i=l.length:=by omega
  go_wp2_with fail;go_ret2;exact⟨_,ls,by rw[HC.o];rfl,uK C.o.1.res,λ h=>kV HC.o h,λ _=>C.o.2.2.2,C.o.1.below⟩
def pickO (T:List Pc) (O:List Nat):List Pc:=O.map λ m=>T.getD m pc0
theorem fa (T:List Pc) (O:List Nat):(pickO T O).map (·.qs)=O.map λ m=>(T.getD m pc0).qs:=by unfold pickO;rw[kl];rfl
theorem nM {t:Tk} {T:List Pc} (h:GoodT t T):∀ {O:List Nat},O.Nodup->(∀ m∈O,m<T.length)->GoodT t (pickO T O):=by
 intro O hn hO;refine⟨λ p B=>?_,?_⟩
 ·obtain⟨m,D,rfl⟩:=yP.1 B;have C:=hO m D;rw[yu,yb C];exact h.mem _ (kH C)
 unfold ApartT pickO;rw[List.pairwise_map];have B:∀ i j,i<T.length->j<T.length->i≠j->∀ q∈(T.getD i pc0).qs,q∉(T.getD j pc0).qs:=λ i j hi hj hij q h1 h2=>by
  rw[yu,yb hi,Yv]at h1;rw[yu,yb hj,Yv]at h2;have A:=YJ.1 h.apart;rcases Nat.lt_or_gt_of_ne hij with hlt|hlt
  ·exact A i j hi hj hlt q h1 h2
  exact A j i hj hi hlt q h2 h1
 refine List.Pairwise.imp_of_mem ?_ hn;intro a b A hb hab;exact B a b (hO a A) (hO b hb) hab
theorem ym {t:Tk} (ho:OkT t) {T:List Pc} (hT:TlT t T) (hc:∀ p∈t.ground,∀ q∈t.ground,Conn t.ground p q) {O:List Nat} (hn:O.Nodup) (hO:∀ m∈O,m<T.length)
  (hP:∀ (i m:Nat),O[i]?=some m->(∃ x,x<T.length/\x∉O.take i/\touchO T (O.take i) x=true)->touchO T (O.take i) m=true) {i m:Nat} (hm:O[i]?=some m) (hi:0<i) :
  (jointE ((O.take i).map λ m=>(T.getD m pc0).qs)).length<(jointE ((O.take (i+1)).map λ m=>(T.getD m pc0).qs)).length:=by
 have C:∀ k,(O.take k).Nodup/\∀ m∈O.take k,m<T.length:=λ k=>⟨hn.sublist (List.take_sublist _ _),λ m h=>hO m (Yx h)⟩;have L:=(yc.1 hm).1;have F:=hO m (yg hm);have B:m∉O.take i:=λ h=>by
  obtain⟨j,M,e⟩:=kA.1 h;obtain⟨I,K⟩:=yc.1 hm;exact kV (e.trans K.symm) (YJ.1 hn j i (by omega) I (by omega))
 have D:O.take i≠[]:=λ h=>by
  have:=YA List.length h;rw[Ye]at this;simp only[yN]at this;omega
 have A:=hP i m hm (xH ho hT hc (C i).2 D F B);unfold touchO at A;rw[YN]at A;obtain⟨a,J,G⟩:=A;have H:=nM (O:=O.take (i+1)) hT.good (C (i+1)).1 (C (i+1)).2;have e:pickO T (O.take (i+1))=pickO T (O.take i)++[T.getD m pc0]:=by unfold pickO;rw[zn hm,Yl];rfl
 rw[<- fa,<- fa,e];rw[e]at H;exact CH ho H (yP.2 ⟨a,J,rfl⟩) G
theorem take_at {α:Type} {l:List α} {k i:Nat} {x:α} (h:(l.take k)[i]?=some x):l[i]?=some x:=by
 rw[YU]at h;split at h
 ·exact h
 cases h
theorem sC {W:World} {base g n c:Nat} {vs:List Value} {ls:List (List Q)} (h:OwnQQ W base (.slice (some ⟨g,0,none⟩) n c) vs ls) {k:Nat} (hk:k<=ls.length):HasQQ W (.slice (some ⟨g,0,none⟩) k c) (ls.take k):=by
 have B:=h.len;have A:=h.row;rcases A.2 with⟨F,_⟩|⟨g',cap,cur,e,h1,h2,h3,h4,h5⟩
 ·cases F
 simp only[yC,yo,Addr.mk.injEq,and_true]at e;obtain⟨rfl,C,rfl⟩:=e;have D:(ls.take k).length=k:=by rw[Ye,Nat.min_eq_left hk]
 exact .inr ⟨⟨g,0,none⟩,c,vs.take k,by rw[D],by rw[D];omega,h4,⟨(A.lt g (by rw[C];rfl)).2,λ i u hu=>World.ownsRow.cells A (g:=g) (by rw[C];rfl) i u (take_at hu)⟩,by simp[B],λ i u l hu B=>(h.each i u l (take_at hu) (take_at B)).has⟩
