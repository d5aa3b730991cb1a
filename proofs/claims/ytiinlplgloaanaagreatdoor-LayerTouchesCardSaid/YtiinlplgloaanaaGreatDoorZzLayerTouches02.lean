/- The smallest functions of package brick and of cmp: what they return. -/
import Derived.WalkSpells
import Derived.WalkLawsBesides
import Derived.BigQuiet
import Derived.StillTailTactics
import Derived.Lib.Hide
import Derived.Test.YtiinlplgloaanaaGreatDoorProg
set_option linter.all false
set_option maxHeartbeats 400000
namespace Go.Proofs.YtiinlplgloaanaaGreatDoor
open Go.Proofs.Tryz Go.RowKit
theorem bJ {k:IntKind} {a b:Int} (h:a=b):Ending.returned (.int k a)=.returned (.int k b):=by rw[h]
theorem qL {a b:Bool} (h:a=b):Ending.returned (.bool a)=.returned (.bool b):=by rw[h]
theorem oC (n a b:Int) (w:World) :
  Calls Tryz.prog 49 #[.int .i64 n,.int .i64 a,.int .i64 b] w λ e w'=>e=.returned (.bool (decide (a<=n/\n<=b)))/\w=w':=by
 by_cases h1:a<=n
 ·have hd:decide (a<=n)=true:=by simpa using h1
  go_enter func49,ntmps49;go_wp2;go_ret;exact⟨by simp[h1],rfl⟩
 ·have hd:decide (a<=n)=false:=by simpa using h1
  go_enter func49,ntmps49;go_wp2;go_ret;exact⟨by simp,rfl⟩
theorem BN (n:Int) (w:World) :
  Calls Tryz.prog 125 #[.int .i64 n] w λ e w'=>e=.returned (.bool false)/\w=w':=by
 go_enter func125,ntmps125;go_wp2;go_ret;exact⟨by simp,rfl⟩
def cmpI (a b:Int):Int:=if a<b then -1 else if b<a then 1 else 0
theorem xL {a b:Int} (h:a<b):-1=cmpI a b:=by simp[cmpI,h]
theorem rq {a b:Int} (h:b<a):1=cmpI a b:=by simp[cmpI,h];omega
theorem AA {a b:Int} (h:b<=a) (h':a<=b):0=cmpI a b:=by unfold cmpI;rw[if_neg (by omega),if_neg (by omega)]
theorem co (a b:Int) (w:World) :
  Calls Tryz.prog 93 #[.int .i64 a,.int .i64 b] w λ e w'=>e=.returned (.int .i64 (cmpI a b))/\w=w':=by
 go_enter func93,ntmps93;go_wp2_with (go_at_call 125;refine(BN _ _).mono ?_;rintro e w' ⟨rfl,rfl⟩)
 ·go_ret;exact⟨bJ (xL ‹_›),rfl⟩
 ·go_ret;exact⟨bJ (rq ‹_›),rfl⟩
 ·go_ret;exact⟨bJ (AA ‹_› ‹_›),rfl⟩
def orL (l:List Int):Int:=(l.find? (· != 0)).getD 0
theorem yx {l:List Int} {k:Nat} {x:Int} (hx:l[k]?=some x) (h0:∀ (i:Nat) (y:Int),i<k->l[i]?=some y->y=0) (h:x≠0):x=orL l:=by
 induction l generalizing k with
 | nil=>simp at hx
 | cons a l ih =>
  cases k with
  | zero=>simp at hx;simp[orL,hx,h]
  | succ k =>
   have A:a=0:=h0 0 a (by omega) rfl;subst A;have:=ih (k:=k) (by simpa using hx) (λ i y hi hy=>h0 (i+1) y (by omega) (by simpa using hy));simpa[orL,List.find?_cons]using this
theorem uz {l:List Int} (h0:∀ (i:Nat) (y:Int),i<l.length->l[i]?=some y->y=0):0=orL l:=by
 induction l with
 | nil=>rfl
 | cons a l ih =>
  have A:a=0:=h0 0 a (by simp) rfl;subst A;have:=ih (λ i y hi hy=>h0 (i+1) y (by simpa using hi) (by simpa using hy));simpa[orL,List.find?_cons]using this
theorem Ab {α:Type} {l:List α} {k:Nat} (h:k<l.length):∃ x,l[k]?=some x:=⟨_,List.getElem?_eq_getElem h⟩
theorem AK (b off cap:Nat) (l:List Int) (w:World) (hm:l.length<=9223372036854775807)
  (hc:∀ (i:Nat) (x:Int),l[i]?=some x->w.cell? ⟨b,off+i,none⟩=some (.int .i64 x)) :
  Calls Tryz.prog 99 #[.slice (some ⟨b,off,none⟩) l.length cap] w λ e w'=>e=.returned (.int .i64 (orL l))/\w=w':=by
 have G:=Lib.hid hc;clear hc;go_enter func99,ntmps99;go_wp2
 go_loop [5,8] (λ _ i=>∃ k:Nat,k<=l.length/\i=.int .i64 k/\Hid (∀ (j:Nat) (y:Int),j<k->l[j]?=some y->y=0)) (λ _ i=>l.length-(intOf i).toNat)
 case atStart=>exact⟨0,Nat.zero_le _,rfl,λ j y hj=>by omega⟩
 case round =>
  obtain⟨k,I,rfl,A⟩:=hrel;by_cases hlt:k<l.length
  ·obtain⟨x,B⟩:=Ab hlt;have D:=G.out k x B;have F:=Lib.hid B;clear B;by_cases h0:x=0
   ·have H:(x != 0)=false:=by simp[h0]
    have C:=Lib.hid h0;clear h0;go_wp2
    go_round
    case rel=>exact⟨k+1,by omega,by go_num,λ j y hj hy=>by
     by_cases e:j=k
     ·subst e;have:=F.out;rw[hy]at this;cases this;exact C.out
     exact A j y (by omega) hy⟩
    case measure=>simp[intOf];omega
   have H:(x != 0)=true:=(by simpa using h0);have C:=Lib.hid h0;clear h0;go_wp2;go_ret;exact⟨bJ (yx F.out A C.out),rfl⟩
  go_wp2;go_ret;exact⟨bJ (uz (λ j y hj hy=>A j y (by omega) hy)),rfl⟩
