/- CompareFunc over quarters, and the order of shapes. -/
import Derived.Test.YtiinlplgloaanaaGreatDoorZzLayerOver25
import Derived.Test.YtiinlplgloaanaaGreatDoorZzLayerOver00
set_option linter.all false
namespace Go.Proofs.YtiinlplgloaanaaGreatDoor
open Go.RowKit Go.Sort
attribute [local go_sem] Oper.semAt_some
def Grew (w w':World):Prop:=∃ q os,w'=grow (w.drewN q) os
theorem Grew.refl (w:World):Grew w w:=⟨0,#[],by simp[grow];rfl⟩
theorem Grew.alloc {w w':World} (h:Grew w w') (o:Obj):Grew w (w'.alloc o):=by
 obtain⟨q,os,rfl⟩:=h;exact⟨q,os.push o,by rw[alloc_eq_grow,grow_grow];simp[grow]⟩
theorem Grew.drewN {w w':World} (h:Grew w w') (n:Nat):Grew w (w'.drewN n):=by
 obtain⟨q,os,rfl⟩:=h;exact⟨q+n,os,by simp[grow,World.drewN,Nat.add_assoc]⟩
theorem Grew.drew {w w':World} (h:Grew w w'):Grew w w'.drew:=h.drewN 1
theorem Grew.trans {a b c:World} (h:Grew a b) (k:Grew b c):Grew a c:=by
 obtain⟨q,os,rfl⟩:=h;obtain⟨r,ps,rfl⟩:=k;exact⟨q+r,os++ps,by simp[grow,World.drewN,Nat.add_assoc,Array.append_assoc]⟩
theorem Grew.below {w w':World} (h:Grew w w'):Bw w w':=by
 obtain⟨q,os,rfl⟩:=h;exact⟨rfl,rfl,rfl,by simp[grow,World.drewN],λ k hk=>by simp[grow,World.drewN,Array.getElem?_append,hk]⟩
theorem zh5 {a b:Q}:cmpQ a b<0↔Q.lt a b:=qgf a b
end Go.Proofs.YtiinlplgloaanaaGreatDoor
