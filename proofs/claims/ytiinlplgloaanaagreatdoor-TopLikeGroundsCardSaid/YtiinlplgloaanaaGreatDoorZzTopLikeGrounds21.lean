/- Plain maths: images of images; the places of a shape. -/
import Derived.Test.YtiinlplgloaanaaGreatDoorZzTopLikeGrounds20
/- Plain maths: images of images; the places of a shape. -/
namespace Go.Proofs.YtiinlplgloaanaaGreatDoor
set_option linter.all false
/-! ### The group -/
theorem trN_add (a b:Nat) (q:Q):trN a (trN b q)=trN (a+b) q:=by
 induction a with
 | zero=>rw [Nat.zero_add]; rfl
 | succ a ih=>rw [show a+1+b=(a+b)+1 by omega]; simp only [trN,ih]
theorem trN_four {q:Q} (h:okS q):trN 4 q=q:=by
 obtain ⟨h1,h2⟩:=h
 simp only [trN,trT]
 apply Q.ext' <;> simp only <;> omega
theorem trN_mod {q:Q} (h:okS q) (n:Nat):trN n q=trN (n % 4) q:=by
 have key:∀ (m k:Nat),m=4*k+m % 4→trN m q=trN (m % 4) q:=by
  intro m k
  induction k generalizing m with
  | zero=>intro e; rw [← show m=m % 4 by omega]
  | succ k ih =>
   intro e
   have e1:m=4+(m-4):=by omega
   have h1:=ih (m-4) (by omega)
   have e2:(m-4) % 4=m % 4:=by omega
   rw [e1,← trN_add,trN_four (okS_trN h _),h1,e2,show (4+(m-4)) % 4=m % 4 by omega]
 exact key n (n / 4) (by omega)
theorem trM_trM {q:Q} (h:okS q):trM (trM q)=q:=by
 obtain ⟨h1,h2⟩:=h
 unfold trM; apply Q.ext' <;> simp only <;> omega
theorem trM_trT {q:Q} (h:okS q):trM (trT q)=trN 3 (trM q):=by
 obtain ⟨h1,h2⟩:=h
 simp only [trN,trT,trM]; apply Q.ext' <;> simp only <;> omega
theorem trM_trN {q:Q} (h:okS q):∀ n,trM (trN n q)=trN (3*n) (trM q)
 | 0=>rfl
 | n+1=>by
  simp only [trN]
  rw [trM_trT (okS_trN h n),trM_trN h n,trN_add,show 3*(n+1)=3+3*n by omega]
def compW (b:Bool) (n:Nat) (c:Bool) (m:Nat):Bool × Nat:=(b != c,if b then (n+3*m) % 4 else (n+m) % 4)
theorem tr_tr {q:Q} (h:okS q) (b:Bool) (n:Nat) (c:Bool) (m:Nat):tr b n (tr c m q)=tr (compW b n c m).1 (compW b n c m).2 q:=by
 have hq:okS (if c then trM q else q):=by split; exact okS_trM; exact h
 unfold tr compW
 cases b with
 | false =>
  simp only [Bool.false_eq_true,if_false,Bool.false_bne]
  rw [trN_add,trN_mod hq]
 | true =>
  simp only [if_true]
  rw [trM_trN hq,trN_add]
  cases c with
  | false =>
   show trN (n+3*m) (trM q)=trN ((n+3*m) % 4) (trM q)
   rw [trN_mod okS_trM]
  | true =>
   simp only [if_true,bne_self_eq_false,Bool.false_eq_true,if_false]
   rw [trM_trM h,trN_mod h]
/-! ### Moving and turning -/
theorem tr_sh (b:Bool) (n:Nat) (dx dy:Int):∃ ex ey:Int,∀ q,tr b n (sh dx dy q)=sh ex ey (tr b n q):=by
 have h1:∃ ex ey:Int,∀ q,(if b then trM (sh dx dy q) else sh dx dy q)=sh ex ey (if b then trM q else q):=by
  cases b with
  | false=>exact ⟨dx,dy,λ q=>rfl⟩
  | true=>exact ⟨-dx,dy,λ q=>by simp only [if_true,trM,sh]; apply Q.ext' <;> simp only; omega⟩
 obtain ⟨ex,ey,h1⟩:=h1
 have h2:∀ (n:Nat),∃ fx fy:Int,∀ q,trN n (sh ex ey q)=sh fx fy (trN n q):=by
  intro n
  induction n with
  | zero=>exact ⟨ex,ey,λ q=>rfl⟩
  | succ n ih =>
   obtain ⟨fx,fy,ih⟩:=ih
   exact ⟨-fy,fx,λ q=>by simp only [trN,ih]; simp only [trT,sh]; apply Q.ext' <;> simp only; omega⟩
 obtain ⟨fx,fy,h2⟩:=h2 n
 exact ⟨fx,fy,λ q=>by unfold tr; rw [h1,h2]⟩
theorem normL_moved {l m:List Q} (hl:l.Nodup) (hm:m.Nodup) {dx dy:Int} (h:∀ q,q∈m↔sh dx dy q∈l):normL m=normL l:=by
 by_cases he:l=[]
 ·have:m=[]:=by
   apply List.eq_nil_iff_forall_not_mem.2
   intro q hq
   have:=(h q).1 hq
   rw [he] at this; cases this
  rw [he,this]
 ·have hb:∀ q,q∈l↔sh (-dx) (-dy) q∈m:=λ q=>by rw [h,sh_back]
  have e1:leftL l=leftL m+dx:=by
   obtain ⟨q,hq,e⟩:=minL_mem (·.x) (l:=m) (λ e=>by
    obtain ⟨q,hq⟩:=List.exists_mem_of_ne_nil l he
    have:=(hb q).1 hq
    rw [e] at this; cases this)
   refine minL_eq ⟨_,(h q).1 hq,by simp only [sh]; unfold leftL; omega⟩ (λ p hp=>?_)
   have:=minL_le (·.x) ((hb p).1 hp)
   simp only [sh] at this; unfold leftL; omega
  have e2:lowL l=lowL m+dy:=by
   obtain ⟨q,hq,e⟩:=minL_mem (·.y) (l:=m) (λ e=>by
    obtain ⟨q,hq⟩:=List.exists_mem_of_ne_nil l he
    have:=(hb q).1 hq
    rw [e] at this; cases this)
   refine minL_eq ⟨_,(h q).1 hq,by simp only [sh]; unfold lowL; omega⟩ (λ p hp=>?_)
   have:=minL_le (·.y) ((hb p).1 hp)
   simp only [sh] at this; unfold lowL; omega
  refine srt_ext (srt_normL hm) (srt_normL hl) (λ q=>?_)
  rw [mem_normL,mem_normL,h,sh_sh,e1,e2,Int.add_comm dx,Int.add_comm dy]
theorem mem_normL_map {l:List Q} {q:Q}:sh (-leftL l) (-lowL l) q∈normL l↔q∈l:=by
 rw [mem_normL,sh_back]
theorem okS_normL {l:List Q} (h:∀ q∈l,okS q):∀ q∈normL l,okS q:=λ q hq=>by
 have h1:okS (sh (leftL l) (lowL l) q):=h _ (mem_normL.1 hq)
 exact h1
theorem nodup_normL {l:List Q} (h:l.Nodup):(normL l).Nodup:=(srt_normL h).nodup
theorem nodup_imgL {l:List Q} (h:l.Nodup) (ho:∀ q∈l,okS q) (b:Bool) (n:Nat):(imgL b n l).Nodup:=nodup_normL (nodup_tr b n h ho)
theorem okS_imgL {l:List Q} (ho:∀ q∈l,okS q) (b:Bool) (n:Nat):∀ q∈imgL b n l,okS q:=okS_normL (λ q hq=>by
 obtain ⟨p,hp,rfl⟩:=List.mem_map.1 hq; exact okS_tr b n (ho p hp))
theorem srt_imgL {l:List Q} (h:l.Nodup) (ho:∀ q∈l,okS q) (b:Bool) (n:Nat):Srt (imgL b n l):=srt_normL (nodup_tr b n h ho)
theorem length_imgL (b:Bool) (n:Nat) (l:List Q):(imgL b n l).length=l.length:=by simp [imgL,length_normL]
theorem imgL_ne {b:Bool} {n:Nat} {l:List Q} (h:l≠[]):imgL b n l≠[]:=λ e=>h (List.length_eq_zero_iff.1 (by rw [← length_imgL b n l,e]; rfl))
theorem imgL_moved {l m:List Q} (hl:l.Nodup) (hm:m.Nodup) (ol:∀ q∈l,okS q) (om:∀ q∈m,okS q) {dx dy:Int} (h:∀ q,q∈m↔sh dx dy q∈l) (b:Bool) (n:Nat):imgL b n m=imgL b n l:=by
 obtain ⟨ex,ey,he⟩:=tr_sh b n dx dy
 refine normL_moved (nodup_tr b n hl ol) (nodup_tr b n hm om) (dx:=ex) (dy:=ey) (λ q=>?_)
 rw [List.mem_map,List.mem_map]
 constructor
 ·rintro ⟨p,hp,rfl⟩
  exact ⟨_,(h p).1 hp,he p⟩
 ·rintro ⟨p,hp,e⟩
  refine ⟨sh (-dx) (-dy) p,(h _).2 (by rw [sh_back]; exact hp),?_⟩
  have:=he (sh (-dx) (-dy) p)
  rw [sh_back,e] at this
  exact (sh_inj this).symm
theorem imgL_normL {l:List Q} (hl:l.Nodup) (ol:∀ q∈l,okS q) (b:Bool) (n:Nat):imgL b n (normL l)=imgL b n l :=
 imgL_moved hl (nodup_normL hl) ol (okS_normL ol) (λ _=>mem_normL) b n
theorem imgL_sh {l:List Q} (hl:l.Nodup) (ol:∀ q∈l,okS q) (dx dy:Int) (b:Bool) (n:Nat):imgL b n (l.map (sh dx dy))=imgL b n l:=by
 refine imgL_moved hl (nodup_map_on hl (λ _ _ _ _ e=>sh_inj e)) ol (λ q hq=>?_) (dx:=-dx) (dy:=-dy) (λ q=>?_) b n
 ·obtain ⟨p,hp,rfl⟩:=List.mem_map.1 hq; exact ol p hp
 ·rw [List.mem_map]
  constructor
  ·rintro ⟨p,hp,rfl⟩
   rw [sh_sh,show -dx+dx=0 by omega,show -dy+dy=0 by omega,sh_zero]; exact hp
  ·intro hq; exact ⟨_,hq,sh_back dx dy q⟩
theorem imgL_imgL {l:List Q} (hl:l.Nodup) (ol:∀ q∈l,okS q) (b:Bool) (n:Nat) (c:Bool) (m:Nat):imgL b n (imgL c m l)=imgL (compW b n c m).1 (compW b n c m).2 l:=by
 have e:imgL c m l=normL (l.map (tr c m)):=rfl
 have ol':∀ q∈l.map (tr c m),okS q:=λ q hq=>by obtain ⟨p,hp,rfl⟩:=List.mem_map.1 hq; exact okS_tr c m (ol p hp)
 rw [e,imgL_normL (nodup_tr c m hl ol) ol']
 unfold imgL
 rw [List.map_map]
 congr 1
 refine List.map_congr_left (λ q hq=>tr_tr (ol q hq) b n c m)
theorem imgL_id {l:List Q}:imgL false 0 l=normL l:=by
 unfold imgL
 have:l.map (tr false 0)=l:=by
  have e:tr false 0=id:=by funext q; rfl
  rw [e,List.map_id]
 rw [this]
/-! ### Ways -/
abbrev Way:=Bool × Nat
def ways8:List Way:=[(false,0),(false,1),(false,2),(false,3),(true,0),(true,1),(true,2),(true,3)]
def imgW (l:List Q) (w:Way):List Q:=imgL w.1 w.2 l
theorem ways8_lt {w:Way}:w∈ways8↔w.2<4:=by
 obtain ⟨b,n⟩:=w
 simp only [ways8,List.mem_cons,Prod.mk.injEq,List.not_mem_nil,or_false]
 cases b <;> simp <;> omega
theorem comp_mem {b c:Bool} {n m:Nat} (_hn:n<4) (_hm:m<4):compW b n c m∈ways8:=by
 rw [ways8_lt]; unfold compW; simp only; split <;> omega
theorem comp_onto (c:Bool) {m:Nat} (hm:m<4) (w:Way) (hw:w∈ways8):∃ v∈ways8,compW v.1 v.2 c m=w:=by
 rw [ways8_lt] at hw
 obtain ⟨b,n⟩:=w
 refine ⟨(b != c,if (b != c) then (n+m) % 4 else (n+4-m) % 4),?_,?_⟩
 ·rw [ways8_lt]; simp only; split <;> omega
 ·simp only [compW]
  simp only at hw
  cases b <;> cases c <;> simp <;> omega
def freshL {α β:Type} [DecidableEq β] (f:α→β):List α→List β→List α
 | [],_=>[]
 | a :: l,seen=>if f a∈seen then freshL f l seen else a :: freshL f l (seen++[f a])
theorem freshL_mem {α β:Type} [DecidableEq β] {f:α→β}:∀ {l:List α} {seen:List β} {a:α},a∈freshL f l seen→a∈l∧f a∉seen
 | b :: l,seen,a,h=>by
  unfold freshL at h
  split at h
  ·have:=freshL_mem h; exact ⟨List.mem_cons_of_mem _ this.1,this.2⟩
  ·rename_i hn
   rcases List.mem_cons.1 h with rfl | h
   ·exact ⟨by simp,hn⟩
   ·have:=freshL_mem h
    exact ⟨List.mem_cons_of_mem _ this.1,λ hm=>this.2 (by simp [hm])⟩
theorem freshL_all {α β:Type} [DecidableEq β] {f:α→β}:∀ {l:List α} {seen:List β} {a:α},a∈l→f a∈seen∨∃ c∈freshL f l seen,f c=f a
 | b :: l,seen,a,h=>by
  unfold freshL
  split
  ·rename_i hs
   rcases List.mem_cons.1 h with rfl | h
   ·exact .inl hs
   ·exact freshL_all h
  ·rcases List.mem_cons.1 h with rfl | h
   ·exact .inr ⟨_,by simp,rfl⟩
   ·rcases freshL_all (f:=f) (seen:=seen++[f b]) h with h' | ⟨c,hc,e⟩
    ·rcases List.mem_append.1 h' with h' | h'
     ·exact .inl h'
     ·rw [List.mem_singleton] at h'
      exact .inr ⟨b,by simp,h'.symm⟩
    ·exact .inr ⟨c,List.mem_cons_of_mem _ hc,e⟩
theorem freshL_nodup {α β:Type} [DecidableEq β] {f:α→β}:∀ {l:List α} {seen:List β},((freshL f l seen).map f).Nodup
 | [],_=>by simp [freshL]
 | b :: l,seen=>by
  unfold freshL
  split
  ·exact freshL_nodup
  ·rw [List.map_cons,List.nodup_cons]
   refine ⟨λ hm=>?_,freshL_nodup⟩
   obtain ⟨c,hc,e⟩:=List.mem_map.1 hm
   exact (freshL_mem hc).2 (by simp [e])
def freshW (l:List Q):List Way:=freshL (imgW l) ways8 []
def diffW (l:List Q):List (List Q):=(freshW l).map (imgW l)
theorem diffW_nodup (l:List Q):(diffW l).Nodup:=freshL_nodup
/-! ### Places -/
structure Plc where
 m:Bool
 t:Nat
 x:Nat
 y:Nat
deriving DecidableEq
def subL (s g:List Q):Bool:=s.all (λ q=>decide (q∈g))
def posL (I g:List Q):List (Nat × Nat) :=
 (List.range (16-(heightL I).toNat+1)).flatMap λ (y:Nat)=>((List.range (16-(widthL I).toNat+1)).filter (λ (x:Nat)=>subL (I.map (sh (x:Int) (y:Int))) g)).map (λ (x:Nat)=>(x,y))
def placesL (l g:List Q):List Plc:=(freshW l).flatMap λ w=>(posL (imgW l w) g).map λ p=>⟨w.1,w.2,p.1,p.2⟩
theorem mem_posL {I g:List Q} {p:Nat × Nat}:p∈posL I g↔p.2<16-(heightL I).toNat+1∧p.1<16-(widthL I).toNat+1∧∀ q∈I,sh p.1 p.2 q∈g:=by
 obtain ⟨x,y⟩:=p
 simp only [posL,List.mem_flatMap,List.mem_range,List.mem_map,List.mem_filter,Prod.mk.injEq,subL,List.all_eq_true,decide_eq_true_eq]
 constructor
 ·rintro ⟨y',h1,x',⟨h2,h3⟩,rfl,rfl⟩; exact ⟨h1,h2,λ q hq=>h3 _ ⟨q,hq,rfl⟩⟩
 ·rintro ⟨h1,h2,h3⟩; exact ⟨y,h1,x,⟨h2,by rintro _ ⟨q,hq,rfl⟩; exact h3 q hq⟩,rfl,rfl⟩
theorem posL_nodup (I g:List Q):(posL I g).Nodup:=by
 unfold posL
 rw [List.Nodup]
 refine pairwise_flatMap (S:=(· < ·)) _ (λ y=>?_) (λ a b hab p hp q hq=>?_) _ List.pairwise_lt_range
 ·rw [List.pairwise_map]
  have:((List.range (16-(widthL I).toNat+1)).filter (λ (x:Nat)=>subL (I.map (sh (x:Int) (y:Int))) g)).Nodup:=List.Nodup.sublist List.filter_sublist List.nodup_range
  exact this.imp (λ hne e=>hne (Prod.mk.inj e).1)
 ·obtain ⟨_,_,rfl⟩:=List.mem_map.1 hp
  obtain ⟨_,_,rfl⟩:=List.mem_map.1 hq
  intro e; have:=(Prod.mk.inj e).2; omega
theorem norm_corner {l:List Q} (h:l≠[]):leftL (normL l)=0∧lowL (normL l)=0:=by
 constructor
 ·obtain ⟨q,hq,e⟩:=minL_mem (·.x) h
  refine minL_eq ⟨_,mem_normL_map.2 hq,by simp only [sh]; unfold leftL; omega⟩ (λ p hp=>?_)
  have:=minL_le (·.x) (mem_normL.1 hp)
  simp only [sh] at this; unfold leftL at this; omega
 ·obtain ⟨q,hq,e⟩:=minL_mem (·.y) h
  refine minL_eq ⟨_,mem_normL_map.2 hq,by simp only [sh]; unfold lowL; omega⟩ (λ p hp=>?_)
  have:=minL_le (·.y) (mem_normL.1 hp)
  simp only [sh] at this; unfold lowL at this; omega
theorem img_corner {l:List Q} (h:l≠[]) (b:Bool) (n:Nat):leftL (imgL b n l)=0∧lowL (imgL b n l)=0:=norm_corner (by simpa using h)
theorem put_inj {I J:List Q} (hI:I≠[]) (h1:leftL I=0∧lowL I=0) (h2:leftL J=0∧lowL J=0) {x y u v:Int} (e:I.map (sh x y)=J.map (sh u v)):x=u∧y=v∧I=J:=by
 have hJ:J≠[]:=λ h0=>hI (by rw [h0] at e; simpa using e)
 have key:∀ {I J:List Q},I≠[]→leftL I=0∧lowL I=0→leftL J=0∧lowL J=0→∀ {x y u v:Int},I.map (sh x y)=J.map (sh u v)→u≤x∧v≤y:=by
  intro I J hI h1 h2 x y u v e
  constructor
  ·obtain ⟨q,hq,he⟩:=minL_mem (·.x) hI
   have:sh x y q∈J.map (sh u v):=by rw [← e]; exact List.mem_map.2 ⟨q,hq,rfl⟩
   obtain ⟨p,hp,hpe⟩:=List.mem_map.1 this
   have hp0:=minL_le (·.x) hp
   have:=congrArg Q.x hpe
   have a1:=h1.1; have a2:=h2.1
   unfold leftL at a1 a2
   simp only [sh] at this he hp0
   omega
  ·obtain ⟨q,hq,he⟩:=minL_mem (·.y) hI
   have:sh x y q∈J.map (sh u v):=by rw [← e]; exact List.mem_map.2 ⟨q,hq,rfl⟩
   obtain ⟨p,hp,hpe⟩:=List.mem_map.1 this
   have hp0:=minL_le (·.y) hp
   have:=congrArg Q.y hpe
   have a1:=h1.2; have a2:=h2.2
   unfold lowL at a1 a2
   simp only [sh] at this he hp0
   omega
 have k1:=key hI h1 h2 e
 have k2:=key hJ h2 h1 e.symm
 have ex:x=u:=by omega
 have ey:y=v:=by omega
 subst ex; subst ey
 refine ⟨rfl,rfl,?_⟩
 have:=congrArg (List.map (sh (-x) (-y))) e
 rw [List.map_map,List.map_map] at this
 have hid:(sh (-x) (-y) ∘ sh x y)=id:=by
  funext q; simp only [Function.comp,sh_sh,id]
  rw [show -x+x=0 by omega,show -y+y=0 by omega,sh_zero]
 rwa [hid,List.map_id,List.map_id] at this
def putP (l:List Q) (p:Plc):List Q:=(imgL p.m p.t l).map (sh p.x p.y)
theorem mem_placesL {l g:List Q} {p:Plc}:p∈placesL l g↔(p.m,p.t)∈freshW l∧(p.x,p.y)∈posL (imgL p.m p.t l) g:=by
 unfold placesL
 rw [List.mem_flatMap]
 constructor
 ·rintro ⟨w,hw,hp⟩
  obtain ⟨c,hc,rfl⟩:=List.mem_map.1 hp
  exact ⟨hw,hc⟩
 ·rintro ⟨h1,h2⟩
  exact ⟨_,h1,List.mem_map.2 ⟨_,h2,rfl⟩⟩
theorem inj_on_of_nodup {α β:Type} {f:α→β}:∀ {l:List α},(l.map f).Nodup→∀ a∈l,∀ b∈l,f a=f b→a=b
 | c :: l,h,a,ha,b,hb,e=>by
  rw [List.map_cons,List.nodup_cons] at h
  rcases List.mem_cons.1 ha with h1 | h1 <;> rcases List.mem_cons.1 hb with h2 | h2
  ·rw [h1,h2]
  ·subst h1; exact absurd (List.mem_map.2 ⟨b,h2,e.symm⟩) h.1
  ·subst h2; exact absurd (List.mem_map.2 ⟨a,h1,e⟩) h.1
  ·exact inj_on_of_nodup h.2 a h1 b h2 e
theorem freshW_inj {l:List Q} {v w:Way} (hv:v∈freshW l) (hw:w∈freshW l) (e:imgW l v=imgW l w):v=w :=
 inj_on_of_nodup (diffW_nodup l) v hv w hw e
theorem putP_inj {l g:List Q} (hl:l≠[]) {p r:Plc} (hp:p∈placesL l g) (hr:r∈placesL l g) (e:putP l p=putP l r):p=r:=by
 obtain ⟨a1,_⟩:=mem_placesL.1 hp
 obtain ⟨b1,_⟩:=mem_placesL.1 hr
 obtain ⟨ex,ey,ei⟩:=put_inj (imgL_ne hl) (img_corner hl _ _) (img_corner hl _ _) e
 have:=freshW_inj a1 b1 ei
 obtain ⟨m,t,x,y⟩:=p
 obtain ⟨m',t',x',y'⟩:=r
 simp only [Prod.mk.injEq] at this ex ey
 obtain ⟨rfl,rfl⟩:=this
 have:x=x':=by omega
 have:y=y':=by omega
 subst_vars; rfl
theorem nodup_of_map {α β:Type} {f:α→β} {l:List α} (h:(l.map f).Nodup):l.Nodup:=by
 rw [List.Nodup,List.pairwise_map] at h
 exact h.imp (λ hne e=>hne (by rw [e]))
theorem placesL_nodup (l g:List Q):(placesL l g).Nodup:=by
 unfold placesL
 have hf:(freshW l).Nodup:=by
  have:=diffW_nodup l
  unfold diffW at this
  exact nodup_of_map this
 refine pairwise_flatMap (S:=(·≠·)) _ (λ w=>?_) (λ a b hab p hp q hq=>?_) _ hf
 ·rw [List.pairwise_map]
  exact (posL_nodup _ g).imp (λ hne e=>hne (by simp only [Plc.mk.injEq] at e; exact Prod.ext e.2.2.1 e.2.2.2))
 ·obtain ⟨_,_,rfl⟩:=List.mem_map.1 hp
  obtain ⟨_,_,rfl⟩:=List.mem_map.1 hq
  intro e; simp only [Plc.mk.injEq] at e; exact hab (Prod.ext e.1 e.2.1)
theorem sub_eq_of_length {α:Type}:∀ {l m:List α},l.Nodup→(∀ q∈l,q∈m)→m.length≤l.length→∀ q∈m,q∈l
 | [],m,_,_,hle,q,hq=>by
  have:m=[]:=List.length_eq_zero_iff.1 (by simpa using hle)
  rw [this] at hq; cases hq
 | a :: l,m,hn,h,hle,q,hq=>by
  rw [List.nodup_cons] at hn
  obtain ⟨m1,m2,rfl⟩:=List.append_of_mem (h a (by simp))
  have h2:∀ p∈l,p∈m1++m2:=λ p hp=>by
   have:=h p (by simp [hp])
   simp only [List.mem_append,List.mem_cons] at this ⊢
   rcases this with h1 | rfl | h1
   ·exact .inl h1
   ·exact absurd hp hn.1
   ·exact .inr h1
  have h3:=sub_eq_of_length hn.2 h2 (by simp at hle ⊢; omega)
  simp only [List.mem_append,List.mem_cons] at hq
  rcases hq with h1 | rfl | h1
  ·exact List.mem_cons_of_mem _ (h3 q (by simp [h1]))
  ·simp
  ·exact List.mem_cons_of_mem _ (h3 q (by simp [h1]))
end Go.Proofs.YtiinlplgloaanaaGreatDoor
