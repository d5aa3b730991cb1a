/- images: the set of the eight images. -/
import Derived.Test.YtiinlplgloaanaaGreatDoorZzLayerTouches24
set_option linter.all false
namespace Go.Proofs.YtiinlplgloaanaaGreatDoor
open Go.RowKit
attribute [local go_sem] Oper.semAt_some
def setM {κ:Type} (l:List κ):List (κ × Value):=l.map λ x=>(x,Value.bool true)
section
variable {P:Program} {k t e:TypeId} {κ:Type} {enc:κ->Value} {ok:κ->Prop} {W:World} {b:Nat} {l:List κ}
theorem iJ (l:List κ):(setM l).map (·.1)=l:=by simp[setM,Function.comp_def]
theorem bt {p:κ × Value}:p∈setM l↔p.1∈l/\p.2=.bool true:=by
 simp only[setM,yP];constructor
 ·rintro⟨x,hx,rfl⟩;exact⟨hx,rfl⟩
 rintro⟨h1,h2⟩;exact⟨p.1,h1,by rw[<- h2]⟩
theorem rQ (E:KeyEnc P k enc ok) (ht:P.underlying t=some (.map k e)) (h:HasM enc W b (setM l)) (hok:∀ x∈l,ok x) (hn:l.Nodup) {x:κ} (hx:ok x) :
  ∃ l',(Instr.mapUpdate t (.map (some b)) (enc x) (.bool true)).run P W=.ok () (putM enc W b (setM l'))/\l'.Nodup/\∀ y,y∈l'↔y∈l\/y=x:=by
 by_cases hm:x∈l
 ·obtain⟨A,B,rfl⟩:=List.append_of_mem hm;refine⟨A++x :: B,?_,hn,λ y=>⟨λ h=>.inl h,λ h=>h.elim id (λ e=>by subst e;exact hm)⟩⟩;have e:setM (A++x :: B)=setM A++(x,Value.bool true) :: setM B:=by simp[setM]
  rw[e]at h ⊢;refine sY E ht h (λ p hp=>?_) ?_ _
  ·rw[<- e]at hp;exact hok _ (bt.1 hp).1
  rw[<- e,iJ];exact hn
 ·refine⟨l++[x],?_,?_,λ y=>by simp⟩
  ·have e:setM (l++[x])=setM l++[(x,Value.bool true)]:=by simp[setM]
   rw[e];exact zY E ht h (λ p hp=>hok _ (bt.1 hp).1) hx (λ p hp e=>hm (by rw[<- e];exact(bt.1 hp).1)) _
  rw[ko];exact⟨hn,by simp,λ a ha b hb e=>hm (by rw[yU.1 hb]at e;rw[<- e];exact ha)⟩
end
theorem Stab.hasM {B b:Nat} (h:b<B) {κ:Type} (enc:κ->Value) (l:List (κ × Value)):Stab B (λ W=>HasM enc W b l):=Stab.obj h _
theorem zb {a:Act} {t:Tmp} {g:Grid} (h:a.eval (.tmp t)=.func (.func 70) #[gridV g] #[]) (l:Nat) (W:World) :
  ∃ d,(resolve a.eval (rangeCall (.tmp t) l) 0).run Tryz.prog W=.ok d W/\(invoke d.target d.args).run Tryz.prog W=.ok (.enter 70 #[gridV g,.func (.yield l) #[] #[]]) W:=by
 refine⟨{ target:=.fn (.func 70) #[],args:=#[gridV g,.func (.yield l) #[] #[]] },?_,?_⟩
 ·simp only[resolve,h];simp[go_sem]
 ·simp[invoke,go_sem]
theorem sB {g:Grid}:∀ x∈wayXs g,x.size=2:=by
 intro x hx;simp only[wayXs,yP]at hx;obtain⟨i,_,rfl⟩:=hx;rfl
theorem vH {g:Grid} {k:Nat} {x:Array Value} (h:(wayXs g)[k]?=some x):k<8/\x=#[.agg #[.bool (decide (4<=k)),.int .i64 (k % 4:Nat),.int .i64 0,.int .i64 0],gridV (imgG g (wayN k))]:=by
 have A:k<8:=by have:=(yc.1 h).1;rwa [fV]at this
 rw[mD g A]at h;exact⟨A,(YX h).symm⟩
theorem aq {g:Grid} (h:okG g) (w:Way):okG (imgG g w):=jn (cG (dV h w.1) w.2)
