/- images: the set of the eight images. -/
import Derived.Test.YtiinlplgloaanaaGreatDoorZzLayerOver24
set_option linter.all false
namespace Go.Proofs.YtiinlplgloaanaaGreatDoor
open Go.RowKit
attribute [local go_sem] Oper.semAt_some
def setM {κ:Type} (l:List κ):List (κ × Value):=l.map λ x=>(x,Value.bool true)
section
variable {P:Program} {k t e:TypeId} {κ:Type} {enc:κ->Value} {ok:κ->Prop} {W:World} {b:Nat} {l:List κ}
theorem qcw (l:List κ):(setM l).map (·.1)=l:=by simp[setM,Function.comp_def]
theorem za7 {p:κ × Value}:p∈setM l↔p.1∈l/\p.2=.bool true:=by
 simp only[setM,yP];constructor
 ·rintro⟨x,hx,rfl⟩;exact⟨hx,rfl⟩
 rintro⟨h1,h2⟩;exact⟨p.1,h1,by rw[<- h2]⟩
theorem qdK (E:KeyEnc P k enc ok) (ht:P.underlying t=some (.map k e)) (h:HasM enc W b (setM l)) (hok:∀ x∈l,ok x) (hn:l.Nodup) {x:κ} (hx:ok x) :
  ∃ l',(Instr.mapUpdate t (.map (some b)) (enc x) (.bool true)).run P W=.ok () (putM enc W b (setM l'))/\l'.Nodup/\∀ y,y∈l'↔y∈l\/y=x:=by
 by_cases hm:x∈l
 ·obtain⟨l1,l2,rfl⟩:=List.append_of_mem hm;refine⟨l1++x :: l2,?_,hn,λ y=>⟨λ h=>.inl h,λ h=>h.elim id (λ e=>by subst e;exact hm)⟩⟩;have e:setM (l1++x :: l2)=setM l1++(x,Value.bool true) :: setM l2:=by simp[setM]
  rw[e]at h ⊢;refine zdE E ht h (λ p hp=>?_) ?_ _
  ·rw[<- e]at hp;exact hok _ (za7.1 hp).1
  rw[<- e,qcw];exact hn
 ·refine⟨l++[x],?_,?_,λ y=>by simp⟩
  ·have e:setM (l++[x])=setM l++[(x,Value.bool true)]:=by simp[setM]
   rw[e];exact qW E ht h (λ p hp=>hok _ (za7.1 hp).1) hx (λ p hp e=>hm (by rw[<- e];exact (za7.1 hp).1)) _
  rw[List.nodup_append];exact⟨hn,by simp,λ a ha b hb e=>hm (by rw[yU.1 hb]at e;rw[<- e];exact ha)⟩
end
theorem Stab.hasM {B b:Nat} (h:b<B) {κ:Type} (enc:κ->Value) (l:List (κ × Value)):Stab B (λ W=>HasM enc W b l):=Stab.obj h _
theorem zga {a:Act} {t:Tmp} {g:Grid} (h:a.eval (.tmp t)=.func (.func 70) #[gridV g] #[]) (l:Nat) (W:World) :
  ∃ d,(resolve a.eval (rangeCall (.tmp t) l) 0).run Tryz.prog W=.ok d W/\(invoke d.target d.args).run Tryz.prog W=.ok (.enter 70 #[gridV g,.func (.yield l) #[] #[]]) W:=by
 refine⟨{ target:=.fn (.func 70) #[],args:=#[gridV g,.func (.yield l) #[] #[]] },?_,?_⟩
 ·simp only[resolve,h];simp[go_sem]
 ·simp[invoke,go_sem]
theorem qfx {g:Grid}:∀ x∈wayXs g,x.size=2:=by
 intro x hx;simp only[wayXs,yP]at hx;obtain⟨i,_,rfl⟩:=hx;rfl
theorem qfK {g:Grid} {k:Nat} {x:Array Value} (h:(wayXs g)[k]?=some x):k<8/\x=#[.agg #[.bool (decide (4<=k)),.int .i64 (k % 4:Nat),.int .i64 0,.int .i64 0],gridV (imgG g (wayN k))]:=by
 have hk:k<8:=by have:=(yc.1 h).1;rwa [qby]at this
 rw[zdP g hk]at h;exact⟨hk,(Option.some.inj h).symm⟩
theorem zaV {g:Grid} (h:okG g) (w:Way):okG (imgG g w):=zd9 (qaY (zbh h w.1) w.2)
end Go.Proofs.YtiinlplgloaanaaGreatDoor
