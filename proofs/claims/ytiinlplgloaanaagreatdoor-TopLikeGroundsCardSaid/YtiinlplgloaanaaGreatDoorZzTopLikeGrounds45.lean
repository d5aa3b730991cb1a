/- TopLikeGrounds: the plain law. -/
import Derived.Test.YtiinlplgloaanaaGreatDoorZzTopLikeGrounds44
import Derived.Test.YtiinlplgloaanaaGreatDoorZzTopLikeGrounds43
/- Plain maths of chapter 7: a ground that is reflected, turned and moved has as many tilings. -/
namespace Go.Proofs.YtiinlplgloaanaaGreatDoor
set_option linter.all false
open Go.RowKit
/-! ### Motions -/
def IsMov (f:Q→Q):Prop:=∃ (b:Bool) (n:Nat) (dx dy:Int),n<4∧∀ q,okS q→f q=sh dx dy (tr b n q)
theorem tr_id (q:Q):tr false 0 q=q:=rfl
theorem mov_id:IsMov (λ q=>q):=⟨false,0,0,0,by decide,λ q _=>by rw [tr_id,sh_zero]⟩
theorem mov_okS {f:Q→Q} (h:IsMov f) {q:Q} (hq:okS q):okS (f q):=by
 obtain ⟨b,n,dx,dy,_,hf⟩:=h
 rw [hf q hq]
 exact okS_sh _ _ (okS_tr b n hq)
theorem mov_inj {f:Q→Q} (h:IsMov f) {a b:Q} (ha:okS a) (hb:okS b) (e:f a=f b):a=b:=by
 obtain ⟨c,n,dx,dy,_,hf⟩:=h
 rw [hf a ha,hf b hb] at e
 exact tr_inj c n ha hb (sh_inj e)
theorem mov_comp {f g:Q→Q} (hf:IsMov f) (hg:IsMov g):IsMov (λ q=>g (f q)):=by
 obtain ⟨b,n,dx,dy,hn,hf'⟩:=hf
 obtain ⟨c,m,ex,ey,hm,hg'⟩:=hg
 obtain ⟨ux,uy,hu⟩:=tr_sh c m dx dy
 refine ⟨(compW c m b n).1,(compW c m b n).2,ux+ex,uy+ey,?_,λ q hq=>?_⟩
 ·have:=ways8_lt.1 (comp_mem (b:=c) (c:=b) hm hn); exact this
 ·show g (f q)=_
  rw [hg' _ (mov_okS ⟨b,n,dx,dy,hn,hf'⟩ hq),hf' q hq,hu,sh_sh,tr_tr hq]
  congr 1 <;> omega
theorem mov_inv {f:Q→Q} (hf:IsMov f):∃ g,IsMov g∧(∀ q,okS q→g (f q)=q)∧∀ q,okS q→f (g q)=q:=by
 obtain ⟨b,n,dx,dy,hn,hf'⟩:=hf
 obtain ⟨v,hv,hc⟩:=comp_onto b hn (false,0) (by decide)
 obtain ⟨ex,ey,he⟩:=tr_sh v.1 v.2 dx dy
 have hgm:IsMov (λ q=>sh (-ex) (-ey) (tr v.1 v.2 q)):=⟨v.1,v.2,-ex,-ey,ways8_lt.1 hv,λ _ _=>rfl⟩
 have hgf:∀ q,okS q→sh (-ex) (-ey) (tr v.1 v.2 (f q))=q:=λ q hq=>by
  rw [hf' q hq,he,tr_tr hq,hc,sh_sh]
  show sh (-ex+ex) (-ey+ey) q=q
  rw [show -ex+ex=0 by omega,show -ey+ey=0 by omega,sh_zero]
 refine ⟨λ q=>sh (-ex) (-ey) (tr v.1 v.2 q),hgm,hgf,λ q hq=>?_⟩
 have h1:=mov_okS hgm hq
 exact mov_inj hgm (mov_okS ⟨b,n,dx,dy,hn,hf'⟩ h1) hq (hgf _ h1)
structure MovG (f:Q→Q) (g h:List Q):Prop where
 mov:IsMov f
 fwd:∀ q∈g,f q∈h
 back:∀ r∈h,∃ q∈g,f q=r
theorem movG_id (g:List Q):MovG (λ q=>q) g g:=⟨mov_id,λ _ h=>h,λ r h=>⟨r,h,rfl⟩⟩
theorem movG_comp {f k:Q→Q} {g h i:List Q} (a:MovG f g h) (b:MovG k h i):MovG (λ q=>k (f q)) g i :=
 ⟨mov_comp a.mov b.mov,λ q hq=>b.fwd _ (a.fwd q hq),λ r hr=>by
  obtain ⟨s,hs,rfl⟩:=b.back r hr
  obtain ⟨q,hq,rfl⟩:=a.back s hs
  exact ⟨q,hq,rfl⟩⟩
theorem movG_inv {f:Q→Q} {g h:List Q} (hg:∀ q∈g,okS q) (a:MovG f g h):∃ k,MovG k h g∧(∀ q,okS q→k (f q)=q)∧∀ q,okS q→f (k q)=q:=by
 obtain ⟨k,h1,h2,h3⟩:=mov_inv a.mov
 refine ⟨k,⟨h1,λ r hr=>?_,λ q hq=>⟨f q,a.fwd q hq,h2 q (hg q hq)⟩⟩,h2,h3⟩
 obtain ⟨q,hq,rfl⟩:=a.back r hr
 rw [h2 q (hg q hq)]; exact hq
/-! ### A brick is moved with its ground -/
theorem mov_place {f:Q→Q} {s g h:List Q} (hs:checkN s=0) (hg:∀ q∈g,inQ q) (hh:∀ q∈h,inQ q) (mv:MovG f g h) {pl:Plc} (hpl:pl∈placesL s g) :
  ∃ pl'∈placesL s h,∀ r,r∈putP s pl'↔∃ q∈putP s pl,f q=r:=by
 obtain ⟨s1,s2,s3⟩:=checkN_ok hs
 have sn:=s1.2.nodup
 have so:∀ q∈s,okS q:=λ q hq=>(s1.1 q hq).okS
 obtain ⟨_,_,p3⟩:=put_place hs hpl
 obtain ⟨b,n,dx,dy,hn,hf⟩:=mv.mov
 have hpt:pl.t<4:=freshW_lt (mem_placesL.1 hpl).1
 have hAo:∀ q∈putP s pl,okS q:=λ q hq=>(hg q (p3 q hq)).okS
 have hAn:(putP s pl).Nodup:=by
  unfold putP
  exact (srt_sh _ _ (srt_imgL sn so _ _)).nodup
 have hAne:putP s pl≠[]:=by
  unfold putP
  intro e
  exact imgL_ne s2 (List.map_eq_nil_iff.1 e)
 -- the image is one of the shape's images
 have hI:imgL b n (putP s pl)=imgW s (compW b n pl.m pl.t):=by
  unfold putP
  rw [imgL_sh (nodup_imgL sn so _ _) (okS_imgL so _ _),imgL_imgL sn so]
  rfl
 obtain ⟨w,hw,hwe⟩:∃ w∈freshW s,imgW s w=imgL b n (putP s pl):=by
  have hc:compW b n pl.m pl.t∈ways8:=comp_mem hn hpt
  rcases freshL_all (f:=imgW s) (seen:=[]) hc with h | ⟨c,hc1,hc2⟩
  ·cases h
  ·exact ⟨c,hc1,by rw [hc2,hI]⟩
 have hmem:∀ q,q∈imgL b n (putP s pl)↔sh (leftL ((putP s pl).map (tr b n))) (lowL ((putP s pl).map (tr b n))) q∈(putP s pl).map (tr b n):=λ q=>by
  unfold imgL; exact mem_normL
 have hto:∀ q∈imgL b n (putP s pl),sh (leftL ((putP s pl).map (tr b n))+dx) (lowL ((putP s pl).map (tr b n))+dy) q∈h:=λ q hq=>by
  obtain ⟨r,hr,e⟩:=List.mem_map.1 ((hmem q).1 hq)
  have:=mv.fwd r (p3 r hr)
  rw [hf r (hAo r hr),e,sh_sh] at this
  rwa [Int.add_comm dx,Int.add_comm dy] at this
 obtain ⟨X,hX⟩:∃ X,leftL ((putP s pl).map (tr b n))+dx=X:=⟨_,rfl⟩
 obtain ⟨Y,hY⟩:∃ Y,lowL ((putP s pl).map (tr b n))+dy=Y:=⟨_,rfl⟩
 rw [hX,hY] at hto
 have hIne:imgL b n (putP s pl)≠[]:=imgL_ne hAne
 obtain ⟨c1,c2⟩:=img_corner hAne b n
 obtain ⟨q1,m1,e1⟩:=minL_mem (·.x) hIne
 obtain ⟨q2,m2,e2⟩:=minL_mem (·.y) hIne
 obtain ⟨q3,m3,e3⟩:=maxL_mem (·.x) hIne
 obtain ⟨q4,m4,e4⟩:=maxL_mem (·.y) hIne
 have i1:=hh _ (hto q1 m1)
 have i2:=hh _ (hto q2 m2)
 have i3:=hh _ (hto q3 m3)
 have i4:=hh _ (hto q4 m4)
 have z1:q1.x=0:=e1.trans c1
 have z2:q2.y=0:=e2.trans c2
 have g3:=maxL_ge (·.x) m1
 have g4:=maxL_ge (·.y) m2
 unfold inQ sh at i1 i2 i3 i4
 simp only at i1 i2 i3 i4 e3 e4 g3 g4
 have hX0:0≤X:=by omega
 have hY0:0≤Y:=by omega
 have hXn:(X.toNat:Int)=X:=Int.toNat_of_nonneg hX0
 have hYn:(Y.toNat:Int)=Y:=Int.toNat_of_nonneg hY0
 have hWw:widthL (imgL b n (putP s pl))=maxL (·.x) (imgL b n (putP s pl))+1:=rfl
 have hHh:heightL (imgL b n (putP s pl))=maxL (·.y) (imgL b n (putP s pl))+1:=rfl
 refine ⟨⟨w.1,w.2,X.toNat,Y.toNat⟩,mem_placesL.2 ⟨hw,mem_posL.2 ?_⟩,λ r=>?_⟩
 ·have hwe':imgL w.1 w.2 s=imgL b n (putP s pl):=hwe
  rw [hwe']
  refine ⟨?_,?_,λ q hq=>?_⟩
  ·simp only; rw [hHh]; omega
  ·simp only; rw [hWw]; omega
  ·simp only [hXn,hYn]; exact hto q hq
 ·have hwe':imgL w.1 w.2 s=imgL b n (putP s pl):=hwe
  have e:putP s ⟨w.1,w.2,X.toNat,Y.toNat⟩=(imgL b n (putP s pl)).map (sh X Y):=by
   show (imgL w.1 w.2 s).map (sh ((X.toNat:Nat):Int) ((Y.toNat:Nat):Int))=_
   rw [hwe',hXn,hYn]
  rw [e,List.mem_map]
  constructor
  ·rintro ⟨q,hq,rfl⟩
   obtain ⟨a,ha,ea⟩:=List.mem_map.1 ((hmem q).1 hq)
   refine ⟨a,ha,?_⟩
   rw [hf a (hAo a ha),ea,sh_sh,← hX,← hY,Int.add_comm dx,Int.add_comm dy]
  ·rintro ⟨a,ha,rfl⟩
   refine ⟨sh (-(leftL ((putP s pl).map (tr b n)))) (-(lowL ((putP s pl).map (tr b n)))) (tr b n a),(hmem _).2 ?_,?_⟩
   ·rw [sh_back]; exact List.mem_map.2 ⟨a,ha,rfl⟩
   ·rw [hf a (hAo a ha),sh_sh,← hX,← hY]
    congr 1 <;> omega
/-! ### A tiling is moved with its ground -/
def RelP (f:Q→Q) (p r:Pc):Prop:=p.ld.kind=r.ld.kind∧∀ q,q∈r.qs↔∃ a∈p.qs,f a=q
def RelL (f:Q→Q) (x y:List Pc):Prop:=(∀ p∈x,∃ r∈y,RelP f p r)∧∀ r∈y,∃ p∈x,RelP f p r
structure TwoT (f:Q→Q) (t u:Tk):Prop where
 okt:OkT t
 oku:OkT u
 kinds:u.kinds=t.kinds
 counts:u.counts=t.counts
 mov:MovG f t.ground u.ground
 tb:t.below=[]
 ub:u.below=[]
 tf:t.fixed=[]
 uf:u.fixed=[]
theorem okS_ground {t:Tk} (h:OkT t):∀ q∈t.ground,okS q:=λ q hq=>((checkN_ok h.ground).1.1 q hq).okS
theorem TwoT.symm {f:Q→Q} {t u:Tk} (h:TwoT f t u):∃ k,TwoT k u t∧(∀ q,okS q→k (f q)=q)∧∀ q,okS q→f (k q)=q:=by
 obtain ⟨k,h1,h2,h3⟩:=movG_inv (okS_ground h.okt) h.mov
 exact ⟨k,⟨h.oku,h.okt,h.kinds.symm,h.counts.symm,h1,h.ub,h.tb,h.uf,h.tf⟩,h2,h3⟩
theorem two_piece {f:Q→Q} {t u:Tk} (h:TwoT f t u) {p:Pc} (hp:p∈(piecesT t).flatten):∃ r∈(piecesT u).flatten,RelP f p r:=by
 obtain ⟨k,s,pl,h1,h2,rfl⟩:=piece_spec hp
 have hs:=h.okt.kinds s (List.mem_of_getElem? h1)
 obtain ⟨pl',h3,h4⟩:=mov_place hs (checkN_ok h.okt.ground).1.1 (checkN_ok h.oku.ground).1.1 h.mov h2
 refine ⟨pieceP k s pl',piece_mk (t:=u) (by rw [h.kinds]; exact h1) h3,rfl,λ q=>?_⟩
 rw [(piece_qs hs h2 k).1,(piece_qs hs h3 k).1]
 exact h4 q
theorem qs_okS {t:Tk} (h:OkT t) {p:Pc} (hp:p∈(piecesT t).flatten):∀ q∈p.qs,okS q∧q∈t.ground:=λ q hq=>by
 have:=(pieces_ok h.kinds h.clen).2.2 p hp q hq
 exact ⟨okS_ground h q this,this⟩
theorem rel_inj {f:Q→Q} {t:Tk} (h:OkT t) (hf:IsMov f) {p p' r:Pc} (hp:p∈(piecesT t).flatten) (hp':p'∈(piecesT t).flatten) (h1:RelP f p r) (h2:RelP f p' r):p=p':=by
 refine piece_inj h.kinds hp hp' (by rw [h1.1,h2.1]) λ q _=>⟨λ hq=>?_,λ hq=>?_⟩
 ·obtain ⟨a,ha,e⟩:=(h2.2 (f q)).1 ((h1.2 (f q)).2 ⟨q,hq,rfl⟩)
  have:=mov_inj hf (qs_okS h hp' a ha).1 (qs_okS h hp q hq).1 e
  exact this▸ha
 ·obtain ⟨a,ha,e⟩:=(h1.2 (f q)).1 ((h2.2 (f q)).2 ⟨q,hq,rfl⟩)
  have:=mov_inj hf (qs_okS h hp a ha).1 (qs_okS h hp' q hq).1 e
  exact this▸ha
noncomputable def phiP (f:Q→Q) (u:Tk) (p:Pc):Pc:=open Classical in if h:∃ r∈(piecesT u).flatten,RelP f p r then Classical.choose h else p
theorem phi_spec {f:Q→Q} {t u:Tk} (h:TwoT f t u) {p:Pc} (hp:p∈(piecesT t).flatten):phiP f u p∈(piecesT u).flatten∧RelP f p (phiP f u p):=by
 have hx:=two_piece h hp
 unfold phiP
 rw [dif_pos hx]
 exact Classical.choose_spec hx
theorem two_tiling {f:Q→Q} {t u:Tk} (h:TwoT f t u) {x:List Pc} (hx:TlT t x):∃ y,TlT u y∧RelL f x y:=by
 obtain ⟨p1,p2,p3⟩:=pieces_ok h.oku.kinds h.oku.clen
 have hphi:∀ p∈x,phiP f u p∈(piecesT u).flatten∧RelP f p (phiP f u p):=λ p hp=>phi_spec h (hx.good.mem p hp)
 have hgood:GoodT u (x.map (phiP f u)):=by
  refine ⟨λ r hr=>?_,?_⟩
  ·obtain ⟨p,hp,rfl⟩:=List.mem_map.1 hr
   exact (hphi p hp).1
  ·unfold ApartT
   rw [List.pairwise_map]
   refine hx.good.apart.imp_of_mem ?_
   intro a b ha hb hab q hq hq'
   obtain ⟨c,hc,ec⟩:=((hphi a ha).2.2 q).1 hq
   obtain ⟨d,hd,ed⟩:=((hphi b hb).2.2 q).1 hq'
   have:=mov_inj h.mov.mov (qs_okS h.okt (hx.good.mem a ha) c hc).1 (qs_okS h.okt (hx.good.mem b hb) d hd).1 (ec.trans ed.symm)
   subst this
   exact hab c hc hd
 have hfull:fullT u (x.map (phiP f u))=true:=by
  unfold fullT
  rw [List.all_eq_true]
  intro r hr
  obtain ⟨q,hq,rfl⟩:=h.mov.back r hr
  have hf:=hx.full
  unfold fullT at hf
  rw [List.all_eq_true] at hf
  obtain ⟨p,hp,hpq⟩:=covT_iff.1 (hf q hq)
  exact covT_iff.2 ⟨phiP f u p,List.mem_map.2 ⟨p,hp,rfl⟩,((hphi p hp).2.2 _).2 ⟨q,hpq,rfl⟩⟩
 have hright:rightT u (x.map (phiP f u))=true:=right_mk λ k hk=>by
  rw [h.counts] at hk ⊢
  rw [← right_get hx.right hk]
  unfold manyT
  rw [List.filter_map,List.length_map]
  congr 2
  refine List.filter_congr λ p hp=>?_
  show decide ((phiP f u p).ld.kind=_)=_
  rw [(hphi p hp).2.1]
 have hp:=(sortP_perm u.ground (x.map (phiP f u))).symm
 refine ⟨sortP u.ground (x.map (phiP f u)),⟨good_perm hp hgood,full_perm hp hfull,right_perm hp hright,sortP_lt _ _ (leasts_ne hgood.apart λ p hpy=>?_)⟩,λ p hpx=>⟨phiP f u p,hp.mem_iff.1 (List.mem_map.2 ⟨p,hpx,rfl⟩),(hphi p hpx).2⟩,λ r hr=>?_⟩
 ·obtain ⟨q,hq⟩:=List.exists_mem_of_ne_nil _ (p1 p (hgood.mem p hpy))
  exact ⟨q,p3 p (hgood.mem p hpy) q hq,hq⟩
 ·obtain ⟨p,hpx,rfl⟩:=List.mem_map.1 (hp.mem_iff.2 hr)
  exact ⟨p,hpx,(hphi p hpx).2⟩
/-! ### The search finds every tiling -/
theorem search_finds {t:Tk} {T:List Pc} (hT:TilingT t T) (hne:∀ p∈(piecesT t).flatten,p.qs≠[]) (hk:∀ p∈(piecesT t).flatten,0≤p.ld.kind∧p.ld.kind.toNat<t.counts.length) (hin:∀ p∈(piecesT t).flatten,∀ q∈p.qs,q∈t.ground) :
  ∀ (f:Nat) {s:List Pc},s.Nodup→ApartT s→(∀ x∈s,x∈T)→leftT t s≤f→(searchT t f s).1≤20000→∃ x∈(searchT t f s).2,∀ p,p∈x↔p∈T:=by
 have hTn:T.Nodup:=apart_nodup hT.good.apart λ p hp=>hne p (hT.good.mem p hp)
 have hfull:∀ {s:List Pc},(∀ x∈s,x∈T)→fullT t s=true→∀ p∈T,p∈s:=by
  intro s hs hf p hp
  obtain ⟨q,hq⟩:=List.exists_mem_of_ne_nil _ (hne p (hT.good.mem p hp))
  have hqg:=hin p (hT.good.mem p hp) q hq
  unfold fullT at hf
  rw [List.all_eq_true] at hf
  obtain ⟨x,hx,hxq⟩:=covT_iff.1 (hf q hqg)
  have:=apart_eq hT.good.apart (hs x hx) hp hxq hq
  exact this▸hx
 have hright:∀ {s:List Pc},s.Nodup→(∀ x∈s,x∈T)→fullT t s=true→rightT t s=true:=by
  intro s hn hs hf
  have hall:=hfull hs hf
  refine right_mk λ k hk=>?_
  rw [← hT.right k hk]
  unfold manyT
  congr 1
  refine Nat.le_antisymm (nodup_le (hn.sublist List.filter_sublist) λ x hx=>?_) (nodup_le (hTn.sublist List.filter_sublist) λ x hx=>?_)
  ·obtain ⟨a,b⟩:=List.mem_filter.1 hx; exact List.mem_filter.2 ⟨hs x a,b⟩
  ·obtain ⟨a,b⟩:=List.mem_filter.1 hx; exact List.mem_filter.2 ⟨hall x a,b⟩
 have hend:∀ {s:List Pc},s.Nodup→(∀ x∈s,x∈T)→fullT t s=true→∃ x∈[s],∀ p,p∈x↔p∈T:=λ {s} _ hs hf=>⟨s,by simp,λ p=>⟨hs p,hfull hs hf p⟩⟩
 intro f
 induction f with
 | zero =>
  intro s hn _ hs hl _
  have hf:fullT t s=true:=by
   unfold fullT
   rw [List.all_eq_true]
   intro q hq
   have:(t.ground.filter λ q=>!covT s q)=[]:=List.length_eq_zero_iff.1 (by unfold leftT at hl; omega)
   rw [List.filter_eq_nil_iff] at this
   simpa using this q hq
  rw [search_full hf,hright hn hs hf]
  exact hend hn hs hf
 | succ f ih =>
  intro s hn ha hs hl hno
  by_cases hf:fullT t s=true
  ·rw [search_full hf,hright hn hs hf]
   exact hend hn hs hf
  ·have hf':fullT t s=false:=by simpa using hf
   obtain ⟨q,hq⟩:=freeT_none hf'
   obtain ⟨hqg,hqc⟩:=freeT_spec hq
   have hTf:=hT.full
   unfold fullT at hTf
   rw [List.all_eq_true] at hTf
   obtain ⟨p,hp,hpq⟩:=covT_iff.1 (hTf q hqg)
   have hps:p∉s:=λ h=>by rw [covT_iff.2 ⟨p,h,hpq⟩] at hqc; cases hqc
   have hpm:=hT.good.mem p hp
   obtain ⟨hk0,hk1⟩:=hk p hpm
   have hput:putT t s p=some (s++[p]):=by
    refine putT_mk (λ r hr=>?_) ?_ (hT.quiet s p hs hp)
    ·cases hc:covT s r with
     | false=>rfl
     | true =>
      obtain ⟨x,hx,hxr⟩:=covT_iff.1 hc
      have:=apart_eq hT.good.apart (hs x hx) hp hxr hr
      subst this; exact absurd hx hps
    ·have h1:=manyT_lt hn hs hp hps
     have h2:=hT.right p.ld.kind.toNat hk1
     rw [Int.toNat_of_nonneg hk0] at h2
     omega
   have hc:=children_mk hpm hq hpq hput
   rw [search_more hf'] at hno ⊢
   obtain ⟨_,h2⟩:=loopT_full hno
   obtain ⟨h3,h4⟩:=h2 _ hc
   have hn':(s++[p]).Nodup:=List.nodup_append.2 ⟨hn,by simp,λ a ha b hb e=>by rw [List.mem_singleton] at hb; subst hb e; exact hps ha⟩
   have ha':ApartT (s++[p]):=by
    refine List.pairwise_append.2 ⟨ha,by simp,λ a ha b hb r hr hr'=>?_⟩
    rw [List.mem_singleton] at hb; subst hb
    have:=apart_eq hT.good.apart (hs a ha) hp hr hr'
    subst this; exact hps ha
   have hs':∀ x∈s++[p],x∈T:=λ x hx=>by
    rcases List.mem_append.1 hx with hx | hx
    ·exact hs x hx
    ·rw [List.mem_singleton] at hx; subst hx; exact hp
   have hl':leftT t (s++[p])≤f:=by
    have:=left_child hc
    omega
   obtain ⟨x,hx,hxT⟩:=ih hn' ha' hs' hl' h3
   exact ⟨x,h4 x hx,hxT⟩
theorem sort_ext {g:List Q} {x y:List Pc} (hx:x.Pairwise λ a b=>leastP g a<leastP g b) (hy:y.Pairwise λ a b=>leastP g a<leastP g b) (h:∀ p,p∈x↔p∈y):x=y:=by
 have nx:x.Nodup:=hx.imp λ hlt e=>by rw [e] at hlt; omega
 have ny:y.Nodup:=hy.imp λ hlt e=>by rw [e] at hlt; omega
 have hp:x.Perm y:=(List.perm_ext_iff_of_nodup nx ny).2 h
 refine List.Perm.eq_of_pairwise (le:=λ a b=>leastP g a<leastP g b) ?_ hx hy hp
 intro a b _ _ h1 h2; omega
theorem tilings_all {t:Tk} (ho:OkT t) (hb:t.below=[]) (hf:t.fixed=[]) (h0:(tilingsT t).2.2=0) {x:List Pc} (h:TlT t x):x∈(tilingsT t).1:=by
 obtain ⟨p1,p2,p3⟩:=pieces_ok ho.kinds ho.clen
 have hr:rootT t=some []:=by unfold rootT; rw [hf]; rfl
 have hfit:=fits_of ho h
 have hz:∃ z∈(tilingsT t).1,∀ p,p∈z↔p∈x:=by
  unfold tilingsT at h0 ⊢
  rw [hr] at h0 ⊢
  simp only [hfit,if_true] at h0 ⊢
  split at h0
  ·simp at h0
  ·rename_i hn
   rw [if_neg hn]
   obtain ⟨y,hy,hyx⟩:=search_finds (tl_tiling hb h) p1 p2 p3 t.ground.length (s:=[]) List.nodup_nil List.Pairwise.nil (λ x hx=>by cases hx) (List.length_filter_le _ _) (by omega)
   exact ⟨sortP t.ground y,List.mem_map.2 ⟨y,hy,rfl⟩,λ p=>((sortP_perm t.ground y).mem_iff).trans (hyx p)⟩
 obtain ⟨z,hz1,hz2⟩:=hz
 rw [sort_ext h.sort (tiling_of ho hz1).sort λ p=>(hz2 p).symm]
 exact hz1
theorem tilings_nodup {t:Tk} (ho:OkT t):(tilingsT t).1.Nodup:=by
 unfold tilingsT
 split
 ·exact List.Pairwise.nil
 ·rename_i s hs
  split
  ·split
   ·exact List.Pairwise.nil
   ·simp only
    unfold List.Nodup
    rw [List.pairwise_map]
    refine (search_distinct (pieces_nodupT t) t.ground.length (root_goodT hs)).imp ?_
    intro x y hxy e
    exact hxy λ p=>((sortP_perm t.ground x).mem_iff).symm.trans ((by rw [e]:p∈sortP t.ground x↔p∈sortP t.ground y).trans (sortP_perm t.ground y).mem_iff)
  ·exact List.Pairwise.nil
theorem rel_same {f:Q→Q} {t:Tk} (h:OkT t) (hf:IsMov f) {x x' y:List Pc} (hx:TlT t x) (hx':TlT t x') (h1:RelL f x y) (h2:RelL f x' y):x=x':=by
 refine sort_ext hx.sort hx'.sort λ p=>⟨λ hp=>?_,λ hp=>?_⟩
 ·obtain ⟨r,hr,h3⟩:=h1.1 p hp
  obtain ⟨p',hp',h4⟩:=h2.2 r hr
  rw [rel_inj h hf (hx.good.mem p hp) (hx'.good.mem p' hp') h3 h4]; exact hp'
 ·obtain ⟨r,hr,h3⟩:=h2.1 p hp
  obtain ⟨p',hp',h4⟩:=h1.2 r hr
  rw [rel_inj h hf (hx'.good.mem p hp) (hx.good.mem p' hp') h3 h4]; exact hp'
theorem two_le {f:Q→Q} {t u:Tk} (h:TwoT f t u) (hu:(tilingsT u).2.2=0):(tilingsT t).1.length≤(tilingsT u).1.length:=by
 refine rel_le (R:=λ x y=>RelL f x y) (tilings_nodup h.okt) (λ x hx=>?_) λ x hx x' hx' y h1 h2=>?_
 ·obtain ⟨y,hy,hr⟩:=two_tiling h (tiling_of h.okt hx)
  exact ⟨y,tilings_all h.oku h.ub h.uf hu hy,hr⟩
 ·exact rel_same h.okt h.mov.mov (tiling_of h.okt hx) (tiling_of h.okt hx') h1 h2
theorem two_count {f:Q→Q} {t u:Tk} (h:TwoT f t u) (ht:(tilingsT t).2.2=0) (hu:(tilingsT u).2.2=0):(tilingsT t).1.length=(tilingsT u).1.length:=by
 obtain ⟨k,h',_,_⟩:=h.symm
 exact Nat.le_antisymm (two_le h hu) (two_le h' ht)
end Go.Proofs.YtiinlplgloaanaaGreatDoor
/- Plain maths of chapter 7: a ground that is reflected, turned and moved has as many unlike tilings. -/
namespace Go.Proofs.YtiinlplgloaanaaGreatDoor
set_option linter.all false
open Go.RowKit
theorem mapM_get {α β:Type} {f:α→Option β}:∀ {l:List α} {tw:List β},l.mapM f=some tw→tw.length=l.length∧∀ (j:Nat) (q:α),l[j]?=some q→∃ b,tw[j]?=some b∧f q=some b
 | [],tw,h=>by
  rw [List.mapM_nil] at h
  cases h
  exact ⟨rfl,λ j q hq=>by simp at hq⟩
 | a :: l,tw,h=>by
  rw [List.mapM_cons] at h
  cases hfa:f a with
  | none=>rw [hfa] at h; cases h
  | some b =>
   rw [hfa] at h
   cases hl:l.mapM f with
   | none=>rw [hl] at h; cases h
   | some bs =>
    rw [hl] at h
    have e:some (b :: bs)=some tw:=h
    cases e
    obtain ⟨h1,h2⟩:=mapM_get hl
    refine ⟨by simp [h1],λ j q hq=>?_⟩
    cases j with
    | zero=>simp at hq; subst hq; exact ⟨b,rfl,hfa⟩
    | succ j=>rw [List.getElem?_cons_succ] at hq ⊢; exact h2 j q hq
theorem mapM_ex {α β:Type} {f:α→Option β}:∀ {l:List α},(∀ q∈l,∃ b,f q=some b)→∃ tw,l.mapM f=some tw
 | [],_=>⟨[],rfl⟩
 | a :: l,h=>by
  obtain ⟨b,hb⟩:=h a (by simp)
  obtain ⟨bs,hbs⟩:=mapM_ex (l:=l) λ q hq=>h q (by simp [hq])
  exact ⟨b :: bs,by rw [List.mapM_cons,hb,hbs]; rfl⟩
structure WayIs (g:List Q) (tw:List Nat) (f:Q→Q):Prop where
 mov:MovG f g g
 get:∀ (j:Nat) (q:Q),g[j]?=some q→∃ c,tw[j]?=some c∧g[c]?=some (f q)
 len:tw.length=g.length
theorem wayIs_id (g:List Q):WayIs g (List.range g.length) (λ q=>q):=by
 refine ⟨movG_id g,λ j q h=>⟨j,?_,h⟩,List.length_range⟩
 rw [List.getElem?_range]
 exact (List.getElem?_eq_some_iff.1 h).1
theorem way_some {g:List Q} (hn:g.Nodup) (hq:∀ q∈g,okS q) {i:Nat} {tw:List Nat} (h:wayT g i=some tw) :
  WayIs g tw (λ q=>sh (leftL g-leftL (g.map (tr (decide (4≤i)) (i % 4)))) (lowL g-lowL (g.map (tr (decide (4≤i)) (i % 4)))) (tr (decide (4≤i)) (i % 4) q)):=by
 have hm:IsMov (λ q=>sh (leftL g-leftL (g.map (tr (decide (4≤i)) (i % 4)))) (lowL g-lowL (g.map (tr (decide (4≤i)) (i % 4)))) (tr (decide (4≤i)) (i % 4) q)):=⟨_,_,_,_,Nat.mod_lt _ (by decide),λ _ _=>rfl⟩
 unfold wayT at h
 obtain ⟨h1,h2⟩:=mapM_get h
 rw [List.length_map] at h1
 have hget:∀ (j:Nat) (q:Q),g[j]?=some q→∃ c,tw[j]?=some c∧g[c]?=some (sh (leftL g-leftL (g.map (tr (decide (4≤i)) (i % 4)))) (lowL g-lowL (g.map (tr (decide (4≤i)) (i % 4)))) (tr (decide (4≤i)) (i % 4) q)):=λ j q hj=>by
  obtain ⟨c,hc,hf⟩:=h2 j (tr (decide (4≤i)) (i % 4) q) (by rw [List.getElem?_map,hj]; rfl)
  obtain ⟨hlt,he,_⟩:=List.findIdx?_eq_some_iff_getElem.1 hf
  exact ⟨c,hc,by rw [List.getElem?_eq_getElem hlt]; exact congrArg some (by simpa using he)⟩
 have hfwd:∀ q∈g,sh (leftL g-leftL (g.map (tr (decide (4≤i)) (i % 4)))) (lowL g-lowL (g.map (tr (decide (4≤i)) (i % 4)))) (tr (decide (4≤i)) (i % 4) q)∈g:=λ q hqg=>by
  obtain ⟨j,hj⟩:=List.getElem?_of_mem hqg
  obtain ⟨c,_,hc⟩:=hget j q hj
  exact List.mem_of_getElem? hc
 refine ⟨⟨hm,hfwd,λ r hr=>?_⟩,hget,h1⟩
 have hnd:=nodup_map_on hn λ a ha b hb e=>mov_inj hm (hq a ha) (hq b hb) e
 have:=sub_eq_of_length hnd (m:=g) (λ q hqm=>by
  obtain ⟨a,ha,rfl⟩:=List.mem_map.1 hqm
  exact hfwd a ha) (by rw [List.length_map]; exact Nat.le_refl _) r hr
 obtain ⟨a,ha,e⟩:=List.mem_map.1 this
 exact ⟨a,ha,e⟩
theorem min_move {g:List Q} {h:Q→Int} {k:Q→Q} {d:Int} (hne:g≠[]) (k':Q→Q) (hk:∀ q∈g,k' q∈g∧h (k' q)=h (k q)+d) (hb:∀ r∈g,∃ q∈g,k' q=r):d=minL h g-minL h (g.map k):=by
 have e:minL h g=minL h (g.map k)+d:=by
  obtain ⟨q0,h0,e0⟩:=minL_mem h (l:=g.map k) (λ e=>hne (List.map_eq_nil_iff.1 e))
  obtain ⟨a,ha,rfl⟩:=List.mem_map.1 h0
  refine minL_eq ⟨k' a,(hk a ha).1,by rw [(hk a ha).2,e0]⟩ λ q hq=>?_
  obtain ⟨b,hb1,rfl⟩:=hb q hq
  rw [(hk b hb1).2]
  have:=minL_le h (l:=g.map k) (List.mem_map.2 ⟨b,hb1,rfl⟩)
  omega
 omega
theorem way_of {g:List Q} (hne:g≠[]) (hn:g.Nodup) (hq:∀ q∈g,okS q) {f:Q→Q} (h:MovG f g g):∃ tw∈waysT g,∃ f',WayIs g tw f'∧∀ q∈g,f' q=f q:=by
 obtain ⟨b,n,dx,dy,hn4,hf⟩:=h.mov
 obtain ⟨i,hi8,hi1,hi2⟩:∃ i,i<8∧decide (4≤i)=b∧i % 4=n:=by
  cases b with
  | true=>exact ⟨4+n,by omega,by simp,by omega⟩
  | false=>exact ⟨n,by omega,by simp; omega,by omega⟩
 have ex:dx=leftL g-leftL (g.map (tr b n)):=min_move hne f (λ q hqg=>⟨h.fwd q hqg,by rw [hf q (hq q hqg)]; rfl⟩) h.back
 have ey:dy=lowL g-lowL (g.map (tr b n)):=min_move hne f (λ q hqg=>⟨h.fwd q hqg,by rw [hf q (hq q hqg)]; rfl⟩) h.back
 obtain ⟨tw,htw⟩:∃ tw,wayT g i=some tw:=by
  unfold wayT
  rw [hi1,hi2]
  refine mapM_ex λ q hqm=>?_
  obtain ⟨a,ha,rfl⟩:=List.mem_map.1 hqm
  rw [← ex,← ey,← hf a (hq a ha)]
  cases hfi:g.findIdx? (λ r=>decide (r=f a)) with
  | some c=>exact ⟨c,rfl⟩
  | none =>
   have:=List.findIdx?_eq_none_iff.1 hfi (f a) (h.fwd a ha)
   simp at this
 refine ⟨tw,List.mem_filterMap.2 ⟨i,List.mem_range.2 hi8,htw⟩,_,way_some hn hq htw,λ q hqg=>?_⟩
 rw [hi1,hi2,← ex,← ey,hf q (hq q hqg)]
theorem way_bit {g:List Q} (hn:g.Nodup) {tw:List Nat} {f:Q→Q} (h:WayIs g tw f) {p:Pc} (hp:∀ q∈p.qs,q∈g) (i:Nat):(setTo g tw p).testBit i=true↔∃ q∈p.qs,g[i]?=some (f q):=by
 rw [setTo_bit]
 constructor
 ·rintro ⟨q,h1,h2⟩
  obtain ⟨j,hj⟩:=List.getElem?_of_mem h1
  rw [List.getElem?_zip_eq_some] at hj
  obtain ⟨c,hc,hg⟩:=h.get j q hj.1
  rw [hj.2] at hc; cases hc
  exact ⟨q,h2,hg⟩
 ·rintro ⟨q,h1,h2⟩
  obtain ⟨j,hj⟩:=List.getElem?_of_mem (hp q h1)
  obtain ⟨c,hc,hg⟩:=h.get j q hj
  obtain ⟨hlt,he⟩:=List.getElem?_eq_some_iff.1 h2
  obtain ⟨hlt',he'⟩:=List.getElem?_eq_some_iff.1 hg
  have hci:c=i:=(List.getElem_inj hn).1 (he'.trans he.symm)
  exact ⟨q,List.mem_of_getElem? (i:=j) (List.getElem?_zip_eq_some.2 ⟨hj,by rw [hc,hci]⟩),h1⟩
theorem way_lt {g:List Q} (h64:g.length≤64) {tw:List Nat} {f:Q→Q} (h:WayIs g tw f):∀ j∈tw,j<64:=λ j hj=>by
 obtain ⟨i,hi⟩:=List.getElem?_of_mem hj
 have hil:i<g.length:=by rw [← h.len]; exact (List.getElem?_eq_some_iff.1 hi).1
 obtain ⟨c,hc,hg⟩:=h.get i _ (List.getElem?_eq_getElem hil)
 rw [hi] at hc; cases hc
 have:=(List.getElem?_eq_some_iff.1 hg).1
 omega
theorem word_inj2 {g:List Q} {tw tw':List Nat} {p r:Pc} (h1:setTo g tw p<2 ^ 64) (h2:setTo g tw' r<2 ^ 64) (k1:p.ld.kind.toNat<2 ^ 64) (k2:r.ld.kind.toNat<2 ^ 64) (h:wordT g tw p=wordT g tw' r):setTo g tw p=setTo g tw' r∧p.ld.kind.toNat=r.ld.kind.toNat:=by
 unfold wordT at h
 have n1:(58:UInt8)∉fmt36 (setTo g tw p):=λ hx=>(fmtB_ne 36 (by decide) (by decide) 64 _ [] (λ c hc=>by cases hc) 58 hx).1 rfl
 have n2:(58:UInt8)∉fmt36 (setTo g tw' r):=λ hx=>(fmtB_ne 36 (by decide) (by decide) 64 _ [] (λ c hc=>by cases hc) 58 hx).1 rfl
 obtain ⟨e1,e2⟩:=cut_at n1 n2 h
 exact ⟨fmt36_inj h1 h2 e1,fmt10_inj k1 k2 e2⟩
theorem kind_small {t:Tk} (ho:OkT t) {p:Pc} (hp:p∈(piecesT t).flatten):0≤p.ld.kind∧p.ld.kind.toNat<2 ^ 64:=by
 have:=(pieces_ok ho.kinds ho.clen).2.1 p hp
 have:=ho.klen; have:=ho.clen
 omega
theorem word_iff {t:Tk} (ho:OkT t) {tw:List Nat} {f:Q→Q} (h:WayIs t.ground tw f) {p r:Pc} (hp:p∈(piecesT t).flatten) (hr:r∈(piecesT t).flatten):wordT t.ground tw p=wordT t.ground (List.range t.ground.length) r↔RelP f p r:=by
 have hn:=(checkN_ok ho.ground).1.2.nodup
 have p3:=(pieces_ok ho.kinds ho.clen).2.2
 have hid:=wayIs_id t.ground
 have b1:=way_bit hn h (p3 p hp)
 have b2:=way_bit hn hid (p3 r hr)
 constructor
 ·intro hw
  obtain ⟨e1,e2⟩:=word_inj2 (setTo_lt (way_lt ho.g64 h)) (setTo_lt (way_lt ho.g64 hid)) (kind_small ho hp).2 (kind_small ho hr).2 hw
  refine ⟨by have:=(kind_small ho hp).1; have:=(kind_small ho hr).1; omega,λ q=>⟨λ hq=>?_,?_⟩⟩
  ·obtain ⟨i,hi⟩:=List.getElem?_of_mem (p3 r hr q hq)
   have:=(b2 i).2 ⟨q,hq,hi⟩
   rw [← e1] at this
   obtain ⟨a,ha,ea⟩:=(b1 i).1 this
   rw [hi] at ea
   exact ⟨a,ha,(Option.some.inj ea).symm⟩
  ·rintro ⟨a,ha,rfl⟩
   obtain ⟨i,hi⟩:=List.getElem?_of_mem (h.mov.fwd a (p3 p hp a ha))
   have:=(b1 i).2 ⟨a,ha,hi⟩
   rw [e1] at this
   obtain ⟨q,hq,eq⟩:=(b2 i).1 this
   rw [hi] at eq
   rw [Option.some.inj eq]; exact hq
 ·rintro ⟨h1,h2⟩
  have e:setTo t.ground tw p=setTo t.ground (List.range t.ground.length) r:=by
   refine Nat.eq_of_testBit_eq λ i=>?_
   rw [Bool.eq_iff_iff,b1 i,b2 i]
   constructor
   ·rintro ⟨q,hq,e⟩; exact ⟨f q,(h2 _).2 ⟨q,hq,rfl⟩,e⟩
   ·rintro ⟨q,hq,e⟩
    obtain ⟨a,ha,rfl⟩:=(h2 q).1 hq
    exact ⟨a,ha,e⟩
  unfold wordT
  rw [e,h1]
theorem sortB_eq {l m:List (List UInt8)} (h:l.Perm m):sortB l=sortB m :=
 ((sortB_perm l).trans (h.trans (sortB_perm m).symm)).eq_of_pairwise (le:=λ a b=>a≤b) (λ a b _ _ h1 h2=>List.le_antisymm h1 h2) (sortB_sorted l) (sortB_sorted m)
theorem key_iff {g:List Q} {tw tw':List Nat} {s u:List Pc}:keyT g tw s=keyT g tw' u↔(s.map (wordT g tw)).Perm (u.map (wordT g tw')):=by
 constructor
 ·intro h
  unfold keyT at h
  have hw:∀ (tw:List Nat) (x:List Pc),∀ w∈sortB (x.map (wordT g tw)),(32:UInt8)∉w∧w≠[]:=λ tw x w hw=>by
   obtain ⟨p,_,rfl⟩:=List.mem_map.1 ((sortB_perm _).mem_iff.1 hw)
   exact word_ok g tw p
  have:=join_inj (hw tw s) (hw tw' u) h
  exact (sortB_perm _).symm.trans (by rw [this]; exact sortB_perm _)
 ·intro h
  unfold keyT
  rw [sortB_eq h]
theorem tl_nodup {t:Tk} {x:List Pc} (h:TlT t x):x.Nodup:=h.sort.imp λ hlt e=>by rw [e] at hlt; omega
theorem keys_rel {t:Tk} (ho:OkT t) {tw:List Nat} {f:Q→Q} (h:WayIs t.ground tw f) {x y:List Pc} (hx:TlT t x) (hy:TlT t y):keyT t.ground tw x=keyT t.ground (List.range t.ground.length) y↔RelL f x y:=by
 rw [key_iff]
 constructor
 ·intro hp
  refine ⟨λ p hpx=>?_,λ r hr=>?_⟩
  ·obtain ⟨r,hr,e⟩:=List.mem_map.1 (hp.mem_iff.1 (List.mem_map.2 ⟨p,hpx,rfl⟩))
   exact ⟨r,hr,(word_iff ho h (hx.good.mem p hpx) (hy.good.mem r hr)).1 e.symm⟩
  ·obtain ⟨p,hpx,e⟩:=List.mem_map.1 (hp.mem_iff.2 (List.mem_map.2 ⟨r,hr,rfl⟩))
   exact ⟨p,hpx,(word_iff ho h (hx.good.mem p hpx) (hy.good.mem r hr)).1 e⟩
 ·rintro ⟨h1,h2⟩
  have hid:=wayIs_id t.ground
  refine (List.perm_ext_iff_of_nodup (nodup_map_on (tl_nodup hx) λ p hp p' hp' e=>?_) (nodup_map_on (tl_nodup hy) λ r hr r' hr' e=>?_)).2 λ w=>⟨λ hw=>?_,λ hw=>?_⟩
  ·obtain ⟨r,hr,hrel⟩:=h1 p hp
   have e1:=(word_iff ho h (hx.good.mem p hp) (hy.good.mem r hr)).2 hrel
   have e2:=(word_iff ho h (hx.good.mem p' hp') (hy.good.mem r hr)).1 (e.symm.trans e1)
   exact rel_inj ho h.mov.mov (hx.good.mem p hp) (hx.good.mem p' hp') hrel e2
  ·have:=(word_iff ho hid (hy.good.mem r hr) (hy.good.mem r' hr')).1 e
   exact piece_inj ho.kinds (hy.good.mem r hr) (hy.good.mem r' hr') (by rw [this.1]) λ q _=>by rw [this.2 q]; simp
  ·obtain ⟨p,hp,rfl⟩:=List.mem_map.1 hw
   obtain ⟨r,hr,hrel⟩:=h1 p hp
   exact List.mem_map.2 ⟨r,hr,((word_iff ho h (hx.good.mem p hp) (hy.good.mem r hr)).2 hrel).symm⟩
  ·obtain ⟨r,hr,rfl⟩:=List.mem_map.1 hw
   obtain ⟨p,hp,hrel⟩:=h2 r hr
   exact List.mem_map.2 ⟨p,hp,(word_iff ho h (hx.good.mem p hp) (hy.good.mem r hr)).2 hrel⟩
/-! ### Tilings that are like each other -/
def LikeT (t:Tk) (x y:List Pc):Prop:=∃ f,MovG f t.ground t.ground∧RelL f x y
theorem like_iff {t:Tk} (ho:OkT t) {x y:List Pc} (hx:TlT t x) (hy:TlT t y):(∃ tw∈waysT t.ground,keyT t.ground tw x=keyT t.ground ((waysT t.ground).headD []) y)↔LikeT t x y:=by
 have hc:=checkN_ok ho.ground
 have hn:=hc.1.2.nodup
 rw [(ways_first hn).1]
 constructor
 ·rintro ⟨tw,htw,e⟩
  obtain ⟨i,_,hi⟩:=List.mem_filterMap.1 htw
  have hw:=way_some hn (okS_ground ho) hi
  exact ⟨_,hw.mov,(keys_rel ho hw hx hy).1 e⟩
 ·rintro ⟨f,hf,hr⟩
  obtain ⟨tw,htw,f',hw,he⟩:=way_of hc.2.1 hn (okS_ground ho) hf
  refine ⟨tw,htw,(keys_rel ho hw hx hy).2 ?_⟩
  have conv:∀ p∈x,∀ r,RelP f p r→RelP f' p r:=λ p hp r h=>⟨h.1,λ q=>(h.2 q).trans ⟨λ ⟨a,ha,e⟩=>⟨a,ha,(he a (qs_okS ho (hx.good.mem p hp) a ha).2).trans e⟩,λ ⟨a,ha,e⟩=>⟨a,ha,(he a (qs_okS ho (hx.good.mem p hp) a ha).2).symm.trans e⟩⟩⟩
  exact ⟨λ p hp=>(hr.1 p hp).imp λ r h=>⟨h.1,conv p hp r h.2⟩,λ r hrr=>(hr.2 r hrr).imp λ p h=>⟨h.1,conv p h.1 r h.2⟩⟩
theorem relL_comp {f k:Q→Q} {x y z:List Pc} (a:RelL f x y) (b:RelL k y z):RelL (λ q=>k (f q)) x z:=by
 have hc:∀ {p r s:Pc},RelP f p r→RelP k r s→RelP (λ q=>k (f q)) p s:=by
  intro p r s h1 h2
  refine ⟨h1.1.trans h2.1,λ q=>(h2.2 q).trans ⟨?_,?_⟩⟩
  ·rintro ⟨c,hc,rfl⟩
   obtain ⟨d,hd,rfl⟩:=(h1.2 c).1 hc
   exact ⟨d,hd,rfl⟩
  ·rintro ⟨d,hd,rfl⟩
   exact ⟨f d,(h1.2 _).2 ⟨d,hd,rfl⟩,rfl⟩
 refine ⟨λ p hp=>?_,λ s hs=>?_⟩
 ·obtain ⟨r,hr,h1⟩:=a.1 p hp
  obtain ⟨s,hs,h2⟩:=b.1 r hr
  exact ⟨s,hs,hc h1 h2⟩
 ·obtain ⟨r,hr,h1⟩:=b.2 s hs
  obtain ⟨p,hp,h2⟩:=a.2 r hr
  exact ⟨p,hp,hc h2 h1⟩
theorem relL_inv {f k:Q→Q} {t:Tk} (ho:OkT t) {x y:List Pc} (hx:TlT t x) (hk:∀ q,okS q→k (f q)=q) (h:RelL f x y):RelL k y x:=by
 have hc:∀ {p r:Pc},p∈x→RelP f p r→RelP k r p:=by
  intro p r hp h1
  refine ⟨h1.1.symm,λ q=>⟨λ hq=>⟨f q,(h1.2 _).2 ⟨q,hq,rfl⟩,hk q (qs_okS ho (hx.good.mem p hp) q hq).1⟩,?_⟩⟩
  rintro ⟨a,ha,rfl⟩
  obtain ⟨b,hb,rfl⟩:=(h1.2 a).1 ha
  rw [hk b (qs_okS ho (hx.good.mem p hp) b hb).1]; exact hb
 refine ⟨λ r hr=>?_,λ p hp=>?_⟩
 ·obtain ⟨p,hp,h1⟩:=h.2 r hr
  exact ⟨p,hp,hc hp h1⟩
 ·obtain ⟨r,hr,h1⟩:=h.1 p hp
  exact ⟨r,hr,hc hp h1⟩
theorem like_refl (t:Tk) (x:List Pc):LikeT t x x:=by
 refine ⟨_,movG_id _,?_⟩
 have:∀ p:Pc,RelP (λ q=>q) p p:=λ p=>⟨rfl,λ q=>by simp⟩
 exact ⟨λ p hp=>⟨p,hp,this p⟩,λ p hp=>⟨p,hp,this p⟩⟩
theorem like_symm {t:Tk} (ho:OkT t) {x y:List Pc} (hx:TlT t x) (h:LikeT t x y):LikeT t y x:=by
 obtain ⟨f,hf,hr⟩:=h
 obtain ⟨k,h1,h2,_⟩:=movG_inv (okS_ground ho) hf
 exact ⟨k,h1,relL_inv ho hx h2 hr⟩
theorem like_trans {t:Tk} {x y z:List Pc} (h:LikeT t x y) (h':LikeT t y z):LikeT t x z:=by
 obtain ⟨f,hf,hr⟩:=h
 obtain ⟨k,hk,hr'⟩:=h'
 exact ⟨_,movG_comp hf hk,relL_comp hr hr'⟩
/-! ### One of each -/
open Classical in
noncomputable def repsT (t:Tk):List (List Pc)→List (List Pc)→List (List Pc)
 | R,[]=>R
 | R,x :: l=>if ∃ r∈R,LikeT t r x then repsT t R l else repsT t (R++[x]) l
theorem reps_count {t:Tk} (ho:OkT t):∀ (l R:List (List Pc)),(∀ x∈l,TlT t x)→(∀ x∈R,TlT t x) →
  (l.foldl (λ (a:List (List UInt8) × Nat) s=>if keyT t.ground ((waysT t.ground).headD []) s∈a.1 then a else (a.1++(waysT t.ground).map λ tw=>keyT t.ground tw s,a.2+1)) (R.flatMap (λ r=>(waysT t.ground).map λ tw=>keyT t.ground tw r),R.length)).2=(repsT t R l).length
 | [],R,_,_=>rfl
 | x :: l,R,hl,hR=>by
  have hin:keyT t.ground ((waysT t.ground).headD []) x∈R.flatMap (λ r=>(waysT t.ground).map λ tw=>keyT t.ground tw r)↔∃ r∈R,LikeT t r x:=by
   rw [List.mem_flatMap]
   constructor
   ·rintro ⟨r,hr,h⟩
    obtain ⟨tw,htw,e⟩:=List.mem_map.1 h
    exact ⟨r,hr,(like_iff ho (hR r hr) (hl x (by simp))).1 ⟨tw,htw,e⟩⟩
   ·rintro ⟨r,hr,h⟩
    obtain ⟨tw,htw,e⟩:=(like_iff ho (hR r hr) (hl x (by simp))).2 h
    exact ⟨r,hr,List.mem_map.2 ⟨tw,htw,e⟩⟩
  rw [List.foldl_cons]
  unfold repsT
  by_cases hc:∃ r∈R,LikeT t r x
  ·rw [if_pos hc,if_pos (hin.2 hc)]
   exact reps_count ho l R (λ y hy=>hl y (by simp [hy])) hR
  ·rw [if_neg hc,if_neg (λ h=>hc (hin.1 h))]
   have:=reps_count ho l (R++[x]) (λ y hy=>hl y (by simp [hy])) (λ y hy=>by
    rcases List.mem_append.1 hy with hy | hy
    ·exact hR y hy
    ·rw [List.mem_singleton] at hy; subst hy; exact hl y (by simp))
   rw [List.flatMap_append,List.flatMap_cons,List.flatMap_nil,List.append_nil,List.length_append] at this
   exact this
theorem reps_spec (t:Tk):∀ (l R:List (List Pc)),(R.Pairwise λ a b=>¬ LikeT t a b)→((repsT t R l).Pairwise λ a b=>¬ LikeT t a b)∧(∀ x∈R,x∈repsT t R l)∧(∀ x∈l,∃ r∈repsT t R l,LikeT t r x)∧∀ x∈repsT t R l,x∈R∨x∈l
 | [],R,h=>⟨h,λ x hx=>hx,λ x hx=>(by cases hx),λ x hx=>.inl hx⟩
 | x :: l,R,h=>by
  unfold repsT
  by_cases hc:∃ r∈R,LikeT t r x
  ·rw [if_pos hc]
   obtain ⟨a1,a2,a3,a4⟩:=reps_spec t l R h
   refine ⟨a1,a2,λ y hy=>?_,λ y hy=>(a4 y hy).imp id λ h=>by simp [h]⟩
   rcases List.mem_cons.1 hy with rfl | hy
   ·obtain ⟨r,hr,hl⟩:=hc
    exact ⟨r,a2 r hr,hl⟩
   ·exact a3 y hy
  ·rw [if_neg hc]
   obtain ⟨a1,a2,a3,a4⟩:=reps_spec t l (R++[x]) (List.pairwise_append.2 ⟨h,by simp,λ r hr y hy=>by
    rw [List.mem_singleton] at hy; subst hy
    exact λ hl=>hc ⟨r,hr,hl⟩⟩)
   refine ⟨a1,λ y hy=>a2 y (List.mem_append_left _ hy),λ y hy=>?_,λ y hy=>?_⟩
   ·rcases List.mem_cons.1 hy with rfl | hy
    ·exact ⟨y,a2 y (by simp),like_refl t y⟩
    ·exact a3 y hy
   ·rcases a4 y hy with h | h
    ·rcases List.mem_append.1 h with h | h
     ·exact .inl h
     ·rw [List.mem_singleton] at h; subst h; exact .inr (by simp)
    ·exact .inr (by simp [h])
theorem unlike_reps {t:Tk} (ho:OkT t):unlikeT t.ground (tilingsT t).1=(repsT t [] (tilingsT t).1).length :=
 reps_count ho (tilingsT t).1 [] (λ x hx=>tiling_of ho hx) (λ x hx=>by cases hx)
theorem unlike_le {f:Q→Q} {t u:Tk} (h:TwoT f t u) (hu:(tilingsT u).2.2=0):unlikeT t.ground (tilingsT t).1≤unlikeT u.ground (tilingsT u).1:=by
 rw [unlike_reps h.okt,unlike_reps h.oku]
 obtain ⟨a1,_,_,a4⟩:=reps_spec t (tilingsT t).1 [] List.Pairwise.nil
 obtain ⟨b1,_,b3,b4⟩:=reps_spec u (tilingsT u).1 [] List.Pairwise.nil
 have tT:∀ x∈repsT t [] (tilingsT t).1,TlT t x:=λ x hx=>tiling_of h.okt ((a4 x hx).resolve_left (by simp))
 have tU:∀ x∈repsT u [] (tilingsT u).1,TlT u x:=λ x hx=>tiling_of h.oku ((b4 x hx).resolve_left (by simp))
 refine rel_le (R:=λ x b=>TlT t x∧TlT u b∧∃ y,TlT u y∧RelL f x y∧LikeT u b y) (a1.imp λ {a b} hn e=>hn (by subst e; exact like_refl t _)) (λ x hx=>?_) λ x hx x' hx' b h1 h2=>?_
 ·obtain ⟨y,hy,hr⟩:=two_tiling h (tT x hx)
  obtain ⟨b,hb,hl⟩:=b3 y (tilings_all h.oku h.ub h.uf hu hy)
  exact ⟨b,hb,tT x hx,tU b hb,y,hy,hr,hl⟩
 ·obtain ⟨hx1,hb1,y,hy,hr,hl⟩:=h1
  obtain ⟨hx2,_,y',hy',hr',hl'⟩:=h2
  obtain ⟨k,hk,hkf,_⟩:=h.symm
  obtain ⟨s,hs,hsr⟩:=like_trans (like_symm h.oku hb1 hl) hl'
  have hlike:LikeT t x x':=⟨_,movG_comp (movG_comp h.mov hs) hk.mov,relL_comp (relL_comp hr hsr) (relL_inv h.okt hx2 hkf hr')⟩
  have key:∀ (l:List (List Pc)),l.Pairwise (λ a b=>¬ LikeT t a b)→x∈l→x'∈l→x=x':=by
   intro l
   induction l with
   | nil=>intro _ h; cases h
   | cons a l ih =>
    intro hp m1 m2
    rw [List.pairwise_cons] at hp
    rcases List.mem_cons.1 m1 with e1 | k1
    ·rcases List.mem_cons.1 m2 with e2 | k2
     ·exact e1.trans e2.symm
     ·subst e1; exact absurd hlike (hp.1 x' k2)
    ·rcases List.mem_cons.1 m2 with e2 | k2
     ·subst e2; exact absurd (like_symm h.okt hx1 hlike) (hp.1 x k1)
     ·exact ih hp.2 k1 k2
  exact key _ a1 hx hx'
theorem two_unlike {f:Q→Q} {t u:Tk} (h:TwoT f t u) (ht:(tilingsT t).2.2=0) (hu:(tilingsT u).2.2=0):unlikeT t.ground (tilingsT t).1=unlikeT u.ground (tilingsT u).1:=by
 obtain ⟨k,h',_,_⟩:=h.symm
 exact Nat.le_antisymm (unlike_le h hu) (unlike_le h' ht)
/-! ### What the law asks -/
theorem put_valid7 {l:List Q} (hc:checkN l=0) {m:Bool} {t x y:Int} (hf:fitsP l m t x y):checkN ((imgL m t.toNat l).map (sh x y))=0∧putC l m t x y=((imgL m t.toNat l).map (sh x y),0):=by
 refine ⟨?_,by rw [putC,if_neg (λ h=>h hc),if_pos hf]⟩
 obtain ⟨f1,f2,f3,f4,f5⟩:=hf
 have ht:t.toNat<4:=by omega
 obtain ⟨h,hl,hlen⟩:=checkN_ok hc
 have hi:=img_in hc m ht
 obtain ⟨hi1,hi2,hi3⟩:=checkN_ok hi
 have hin:∀ q∈(imgL m t.toNat l).map (sh x y),inQ q:=λ q hq=>by
  obtain ⟨r,hr,rfl⟩:=List.mem_map.1 hq
  have b0:=hi1.1 r hr
  have b3:=maxL_ge (·.x) hr
  have b4:=maxL_ge (·.y) hr
  unfold widthL at f4; unfold heightL at f5
  unfold inQ at *
  unfold sh
  simp only
  omega
 unfold checkN
 rw [if_neg (by rw [List.length_map]; omega),if_pos ⟨⟨hin,srt_sh x y hi1.2⟩,by simpa using hi2⟩]
theorem put_mov {g:List Q} {m:Bool} {n:Nat} {x y:Int} (hn:n<4) (hc:checkN g=0) (h0:(putC g m n x y).2=0):∃ f,MovG f g (putC g m n x y).1∧checkN (putC g m n x y).1=0∧(putC g m n x y).1.length=g.length:=by
 obtain ⟨g1,g2,g3⟩:=checkN_ok hc
 have go:∀ q∈g,okS q:=λ q hq=>(g1.1 q hq).okS
 unfold putC at h0 ⊢
 rw [if_neg (λ h=>h hc)] at h0 ⊢
 split at h0
 ·rename_i hf
  rw [if_pos hf]
  simp only [Int.toNat_natCast]
  have hlen:((imgL m n g).map (sh x y)).length=g.length:=by rw [List.length_map,length_imgL]
  have hmem:∀ r,r∈(imgL m n g).map (sh x y)↔∃ q∈g,sh (x-leftL (g.map (tr m n))) (y-lowL (g.map (tr m n))) (tr m n q)=r:=by
   intro r
   rw [List.mem_map]
   constructor
   ·rintro ⟨q,hq,rfl⟩
    obtain ⟨a,ha,e⟩:=List.mem_map.1 (mem_normL.1 hq)
    refine ⟨a,ha,?_⟩
    rw [e,sh_sh]
    congr 1 <;> omega
   ·rintro ⟨a,ha,rfl⟩
    refine ⟨sh (-(leftL (g.map (tr m n)))) (-(lowL (g.map (tr m n)))) (tr m n a),mem_normL_map.2 (List.mem_map.2 ⟨a,ha,rfl⟩),?_⟩
    rw [sh_sh]
    congr 1 <;> omega
  refine ⟨_,⟨⟨m,n,_,_,hn,λ _ _=>rfl⟩,λ q hq=>(hmem _).2 ⟨q,hq,rfl⟩,λ r hr=>(hmem r).1 hr⟩,?_,hlen⟩
  have:=(put_valid7 hc hf).1
  rwa [Int.toNat_natCast] at this
 ·simp at h0
theorem borders_ground {t:Tk} (ho:OkT t) {x:List Pc} (h:TlT t x):(x.map λ p=>(borderE p.qs).length).sum=(borderE t.ground).length+2*(jointE (x.map (·.qs))).length:=by
 obtain ⟨f1,f2,f3⟩:=apart_flat ho h.good
 have f4:=flat_ground ho h.good h.full
 have hg:=checkN_ok ho.ground
 have hq:∀ q∈(x.map (·.qs)).flatten,inQ q:=λ q hq=>hg.1.1 q (f2 q hq)
 have hwho:∀ e,(whoE t.ground e).length=(whoE (x.map (·.qs)).flatten e).length:=λ e =>
  same_len (hg.1.2.nodup.sublist List.filter_sublist) (f1.sublist List.filter_sublist) λ q=>by
   unfold whoE
   rw [List.mem_filter,List.mem_filter,f4]
 have hb:=borders_count f1 hq (U:=(ownL [] (x.map (·.qs)).flatten).map (·.1)) (B:=borderE t.ground) (J:=jointE (x.map (·.qs))) (bord:=borderE) (ownL_who hq).1 (λ e he=>(ownL_who hq).2.2.1 e he) (λ l hl=>⟨pick_nodup (checkN_ok (f3 l hl)).1.1 oneP,λ e=>pick_mem (checkN_ok (f3 l hl)).1.1 (by rfl) e⟩)
  (pick_nodup hg.1.1 oneP) (λ e=>by
   have h3:e∈borderE t.ground↔oneP (whoE t.ground e)=true:=pick_mem hg.1.1 (by rfl) e
   rw [h3]
   unfold oneP
   rw [hwho]) (nodup_jointE hq) (λ e=>mem_jointE hq e)
 rw [List.map_map] at hb
 exact hb
end Go.Proofs.YtiinlplgloaanaaGreatDoor
/- TopLikeGrounds: the plain law. -/
namespace Go.Proofs.YtiinlplgloaanaaGreatDoor
set_option linter.all false
open Go.RowKit
theorem put_code {g:List Q} (hc:checkN g=0) (m:Bool) (n x y:Int):(putC g m n x y).2=0∨(putC g m n x y).2=3:=by
 unfold putC
 rw [if_neg (λ h=>h hc)]
 split
 ·exact .inl rfl
 ·exact .inr rfl
theorem two_task {g:List Q} {K:List (List Q)} {C:List Int} {m:Bool} {n:Nat} {x y:Int} (ho:OkT ⟨g,K,C,[],[]⟩) (hn:n<4) (h0:(putC g m n x y).2=0):(putC g m n x y).1.length=g.length∧∃ f,TwoT f ⟨g,K,C,[],[]⟩ ⟨(putC g m n x y).1,K,C,[],[]⟩:=by
 obtain ⟨f,h1,h2,h3⟩:=put_mov hn ho.ground h0
 exact ⟨h3,f,ho,⟨h2,by show (putC g m n x y).1.length≤64; rw [h3]; exact ho.g64,ho.kinds,ho.kind16,ho.klen,ho.clen,ho.cnt,ho.csum,ho.fixed,ho.blen,ho.bin,ho.bsort⟩,rfl,rfl,h1,rfl,rfl,rfl,rfl⟩
theorem count_code (t:Tk):(countT t).2.2.2=0∨(countT t).2.2.2=8:=by
 unfold countT
 rcases tilings_code t with h | h
 ·rw [if_pos h]; exact .inl rfl
 ·rw [if_neg (by rw [h]; decide),h]; exact .inr rfl
theorem count_zero {t:Tk} (h:(countT t).2.2.2=0):(tilingsT t).2.2=0∧(countT t).1=(tilingsT t).1.length∧(countT t).2.1=unlikeT t.ground (tilingsT t).1:=by
 unfold countT at h ⊢
 rcases tilings_code t with h1 | h1
 ·rw [if_pos h1]; exact ⟨h1,rfl,rfl⟩
 ·rw [if_neg (by rw [h1]; decide),h1] at h; exact absurd h (by decide)
theorem two_says {f:Q→Q} {t u:Tk} (h:TwoT f t u) {a1 b1 n1 c1 a2 b2 n2 c2:Nat} (h1:(a1,b1,n1,c1)=countT t) (h2:(a2,b2,n2,c2)=countT u) :
  (c1=0∨c1=8)∧(c2=0∨c2=8)∧(c1=0→c2=0→a1=a2∧b1=b2∧((a1=0∧firstT t=([],7)∧firstT u=([],7))∨(a1≠0∧(firstT u).2=0∧∃ x∈(tilingsT t).1,firstT t=(x.map (·.ld),0)))):=by
 have k1:=count_code t
 have k2:=count_code u
 rw [← h1] at k1
 rw [← h2] at k2
 refine ⟨k1,k2,λ e1 e2=>?_⟩
 have z1:=count_zero (t:=t) (by rw [← h1]; exact e1)
 have z2:=count_zero (t:=u) (by rw [← h2]; exact e2)
 rw [← h1] at z1
 rw [← h2] at z2
 simp only at z1 z2
 obtain ⟨s1,s2,s3⟩:=z1
 obtain ⟨r1,r2,r3⟩:=z2
 have q1:=two_count h s1 r1
 have q2:=two_unlike h s1 r1
 refine ⟨by omega,by omega,?_⟩
 unfold firstT
 rw [if_neg (λ hn=>hn s1),if_neg (λ hn=>hn r1)]
 cases hl:(tilingsT t).1 with
 | nil =>
  rw [hl] at q1 s2
  cases hm:(tilingsT u).1 with
  | nil=>exact .inl ⟨s2,rfl,rfl⟩
  | cons y m=>rw [hm] at q1; simp at q1
 | cons x l =>
  rw [hl] at q1 s2
  cases hm:(tilingsT u).1 with
  | nil=>rw [hm] at q1; simp at q1
  | cons y m=>exact .inr ⟨by rw [s2]; simp,rfl,x,by simp,rfl⟩
def sumB (x:List Pc) (i:Nat):Nat:=((x.take i).map λ p=>(borderE p.qs).length).sum
theorem sumB_step {x:List Pc} {i:Nat} {p:Pc} (h:x[i]?=some p):sumB x (i+1)=sumB x i+(borderE p.qs).length:=by
 obtain ⟨hk,rfl⟩:=List.getElem?_eq_some_iff.1 h
 unfold sumB
 rw [List.take_succ_eq_append_getElem hk,List.map_append,List.sum_append]
 simp
theorem sumB_le (x:List Pc) (i:Nat):sumB x i≤(x.map λ p=>(borderE p.qs).length).sum:=by
 have h:(x.map λ p=>(borderE p.qs).length).sum=(((x.take i)++(x.drop i)).map λ p=>(borderE p.qs).length).sum:=by rw [List.take_append_drop]
 rw [h,List.map_append,List.sum_append]
 exact Nat.le_add_right _ _
theorem sumB_all {t:Tk} (ho:OkT t) {x:List Pc} (hx:x∈(tilingsT t).1) {L es bs:List E} (hL:LOk t.ground L) (he:es.Perm (L.filter (jointT x))) (hb:bs.Perm (borderE t.ground)):(x.map λ p=>(borderE p.qs).length).sum=bs.length+2*es.length:=by
 have hT:=tiling_of ho hx
 rw [borders_ground ho hT,hb.length_eq,he.length_eq,(joints_perm ho hT.good hL).length_eq]
theorem tl_ne {t:Tk} (ho:OkT t) {x:List Pc} (h:TlT t x):x≠[]:=by
 rintro rfl
 obtain ⟨q,hq⟩:=List.exists_mem_of_ne_nil _ (checkN_ok ho.ground).2.1
 have:=(flat_ground ho h.good h.full q).2 hq
 simp at this
theorem copy_quarters {g:List Q} (hl:g.length*24≤140737488351232) (W:World) (gp:Option Addr) (gc:Nat) (hv:HasQ W (.slice gp g.length gc) g) :
  ∃ vg W2,(Builtin.append_ #[22,22] 22 #[.slice (some ⟨W.heap.size,0,none⟩) 0 0,.slice gp g.length gc]).run Tryz.prog (W.alloc (.cells #[] 56))=.ok vg W2∧OwnQ W2 W.heap.size vg g∧Below W.heap.size W W2:=by
 obtain ⟨iQ,hiQ,hzQ,hsQ,hbQ⟩:=info_parts infoQ
 have hown0:(W.alloc (.cells #[] 56)).ownsRow W.heap.size 56 3 (.slice (some ⟨W.heap.size,0,none⟩) 0 0) 0 []:=⟨rfl,.inr ⟨W.heap.size,0,#[],rfl,Nat.le_refl _,World.alloc_heap_new W _,Nat.le_refl _,by decide,rfl,rfl⟩⟩
 have hal:Below W.heap.size W (W.alloc (.cells #[] 56)):=(Below.refl _ W).alloc (Nat.le_refl _) _
 rcases hv with ⟨h1,h2⟩ | ⟨a,cap,h1,h2,h3,h4⟩
 ·subst h2
  simp only [Value.slice.injEq,List.length_nil,true_and] at h1
  obtain ⟨rfl,rfl⟩:=h1
  exact ⟨_,_,run_append_nil _ _,hown0,hal⟩
 ·simp only [Value.slice.injEq,true_and] at h1
  obtain ⟨rfl,rfl⟩:=h1
  obtain ⟨v',W',hr,ho,hg,_,_⟩:=run_append_own_at (P:=Tryz.prog) (W.alloc (.cells #[] 56)) W.heap.size 22 22 56 iQ _ 3 24 Tryz.underlying22 hiQ hzQ hsQ hbQ rfl (by decide) (.slice (some ⟨W.heap.size,0,none⟩) 0 0) 0 [] hown0 a g.length gc (qCells g) (qCells_length g) (qsAt_cells (h4.below hal)) (λ u hu=>by
   obtain ⟨q,_,hq⟩:=List.mem_flatMap.1 hu
   exact qVals_one q u hq) (by simp only [maxLen]; omega) (by omega) (by rw [World.size_alloc]; omega)
  exact ⟨v',W',hr,by simpa using ho,hal.grown hg (by rw [World.size_alloc]; omega) λ b e=>by simp only [Value.ownBlock,Option.some.injEq] at e; omega⟩
end Go.Proofs.YtiinlplgloaanaaGreatDoor
