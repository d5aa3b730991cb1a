/- Check. -/
import Derived.Test.YtiinlplgloaanaaGreatDoorZzLayerTouches14
set_option linter.all false
set_option maxRecDepth 100000
set_option maxHeartbeats 1000000
namespace Go.Proofs.YtiinlplgloaanaaGreatDoor
open Go.RowKit
attribute [local go_sem] Oper.semAt_some
def okQ (l:List Q):Prop:=(∀ q∈l,inQ q)/\Srt l
instance (l:List Q):Decidable (okQ l):=by unfold okQ;infer_instance
def checkN (l:List Q):Nat:=if 400<l.length then 5 else if okQ l/\l≠[]then 0 else 2
theorem oX (a b:Q):orL [cmpI a.y b.y,cmpI a.x b.x,cmpI a.s b.s]<0↔Q.lt a b:=by
 simp only[orL,cmpI,Q.lt]
 repeat' split
 all_goals(first|omega|(simp at *;omega))
theorem jM {l:List Q} {k:Nat} {q:Q} (h:l[k]?=some q) (h0:okQ (l.take k)) (h1:inQ q) (h2:∀ p,0<k->l[k-1]?=some p->Q.lt p q):okQ (l.take (k+1)):=by
 obtain⟨B,rfl⟩:=yc.1 h;rw[Yr B];refine⟨λ r hr=>?_,?_⟩
 ·rcases yY.1 hr with hr|hr
  ·exact h0.1 r hr
  rw[yU.1 hr];exact h1
 rw[Srt,kW];refine⟨h0.2,by simp,λ r hr q' hq'=>?_⟩;rw[yU.1 hq'];obtain⟨j,C,rfl⟩:=List.mem_iff_getElem.1 hr;rw[Ye]at C;rw[List.getElem_take];have A:=h2 l[k-1] (by omega) (yb (by omega));by_cases hjk:j=k-1
 ·subst hjk;exact A
 have:=YJ.1 h0.2 j (k-1) (by rw[Ye];omega) (by rw[Ye];omega) (by omega);rw[List.getElem_take,List.getElem_take]at this;exact Q.lt_trans this A
theorem gQ {l:List Q} {k:Nat} {q:Q} (h:l[k]?=some q) (hn:¬ inQ q):¬ okQ l:=λ ho=>hn (ho.1 q (yg h))
theorem rU {l:List Q} {k:Nat} {p q:Q} (h:l[k+1]?=some q) (hp:l[k]?=some p) (hn:¬ Q.lt p q):¬ okQ l:=λ ho=>by
 obtain⟨hk,rfl⟩:=yc.1 h;obtain⟨hj,rfl⟩:=yc.1 hp;exact hn (YJ.1 ho.2 k (k+1) hj hk (by omega))
theorem dF {n a b:Int} {v:Bool} (h:decide (a<=n/\n<=b)=v) (w:World):Calls Tryz.prog 49 #[.int .i64 n,.int .i64 a,.int .i64 b] w λ e w'=>e=.returned (.bool v)/\w'=w :=
 (oC n a b w).mono λ e w' h'=>⟨h'.1.trans (by rw[h]),h'.2.symm⟩
theorem vh (l:List Q) (a:Addr) (cap:Nat) (hlm:l.length<=maxLen) (w:World) (hqs:QsAt w a l) :
  Calls Tryz.prog 42 #[.slice (some a) l.length cap] w λ e w'=>e=.returned (.int .i64 (checkN l))/\Bw w w':=by
 have HS:=yK hqs;clear hqs;by_cases h400:400<l.length
 case pos =>
  go_enter Tryz.func42,Tryz.ntmps42;go_wp2;go_ret;exact⟨by rw[checkN,Yz h400];rfl,yf _ _⟩
 go_enter Tryz.func42,Tryz.ntmps42;go_wp2;go_loopw [10] (λ v wr=>∃ k:Nat,k<=l.length/\v=.int .i64 k/\okQ (l.take k)/\Bw w wr) (λ v _=>l.length-(intOf v).toNat)
 case atStart=>exact⟨0,by omega,rfl,⟨by simp,by simp⟩,yf _ _⟩
 case round =>
  obtain⟨k,r,rfl,H,J⟩:=hrel;by_cases hlt:k<l.length
  ·obtain⟨q,G⟩:∃ q,l[k]?=some q:=⟨_,yb hlt⟩;have I:=yK G;have U:=yK H;have D:=HS.o.below J;have b:=D.at0 k q G;have d:=D.at1 k q G;have i:=D.at2 k q G;clear G H;obtain⟨x,y,s⟩:=q;go_wp2;have C:=D.below ((yf _ wr).alloc (ye _) (.cells #[.int .i64 x,.int .i64 y,.int .i64 s] 56));have B:=J.alloc J.size (.cells #[.int .i64 x,.int .i64 y,.int .i64 s] 56);have W:=aI wr [.int .i64 x,.int .i64 y,.int .i64 s] 56 0 _ rfl;have X:=aI wr [.int .i64 x,.int .i64 y,.int .i64 s] 56 1 _ rfl;have V:=aI wr [.int .i64 x,.int .i64 y,.int .i64 s] 56 2 _ rfl;revert C B W X V;show QsAt (wr.alloc (.cells #[.int .i64 x,.int .i64 y,.int .i64 s] 56)) _ _->Below _ _ (wr.alloc (.cells #[.int .i64 x,.int .i64 y,.int .i64 s] 56))->(wr.alloc (.cells #[.int .i64 x,.int .i64 y,.int .i64 s] 56)).cell? _=_->(wr.alloc (.cells #[.int .i64 x,.int .i64 y,.int .i64 s] 56)).cell? _=_->(wr.alloc (.cells #[.int .i64 x,.int .i64 y,.int .i64 s] 56)).cell? _=_->_;generalize wr.alloc (.cells #[.int .i64 x,.int .i64 y,.int .i64 s] 56)=W1;intro C B W X V;clear b d i D;by_cases hx:0<=x/\x<=15
   case neg =>
    have m:decide (0<=x/\x<=15)=false:=(by simpa using hx);go_quiet ((go_at_call 49;exact Calls.quiet_of_same (dF (by assumption) _)));go_wp2;go_ret;exact⟨by rw[checkN,Yy h400,Yy (λ hc=>gQ I.o (λ hi=>hx ⟨hi.1,by have:=hi.2.1;simp only at this;omega⟩) hc.1)];rfl,B.trans (below_drewN _ _ _)⟩
   have m:decide (0<=x/\x<=15)=true:=(by simpa using hx);by_cases hy:0<=y/\y<=15
   case neg =>
    have Z:decide (0<=y/\y<=15)=false:=(by simpa using hy);go_quiet ((go_at_call 49;exact Calls.quiet_of_same (dF (by assumption) _)));go_wp2;go_ret;exact⟨by rw[checkN,Yy h400,Yy (λ hc=>gQ I.o (λ hi=>hy ⟨hi.2.2.1,by have:=hi.2.2.2.1;simp only at this;omega⟩) hc.1)];rfl,B.trans (below_drewN _ _ _)⟩
   have Z:decide (0<=y/\y<=15)=true:=(by simpa using hy);by_cases hs:0<=s/\s<=3
   case neg =>
    have n:decide (0<=s/\s<=3)=false:=(by simpa using hs);go_quiet ((go_at_call 49;exact Calls.quiet_of_same (dF (by assumption) _)));go_wp2;go_ret;exact⟨by rw[checkN,Yy h400,Yy (λ hc=>gQ I.o (λ hi=>hs ⟨hi.2.2.2.2.1,by have:=hi.2.2.2.2.2;simp only at this;omega⟩) hc.1)];rfl,B.trans (below_drewN _ _ _)⟩
   have n:decide (0<=s/\s<=3)=true:=(by simpa using hs);have f:(k:Int)+1<9223372036854775808:=(by have Y:=hlm;simp only[maxLen]at Y;omega);have K:inQ ⟨x,y,s⟩:=⟨hx.1,by simp only;omega,hy.1,by simp only;omega,hs.1,by simp only;omega⟩;have T:=yK K;clear K;by_cases hk0:k=0
   case pos =>
    subst hk0;go_quiet ((go_at_call 49;exact Calls.quiet_of_same (dF (by assumption) _)));go_wp2
    go_roundw
    case rel=>exact⟨1,by omega,by go_num,jM I.o U.o T.o (λ _ h=>kV h (by omega)),B.trans (below_drewN _ _ _)⟩
    case measure=>simp[intOf];omega
   obtain⟨j,rfl⟩:∃ j,k=j+1:=⟨k-1,by omega⟩;obtain⟨p,F⟩:∃ p,l[j]?=some p:=⟨_,yb (by omega)⟩;have HP:=yK F;have z:=C.at0 j p F;have t:=C.at1 j p F;have p2:=C.at2 j p F;clear F C;obtain⟨O,P,S⟩:=p;have e1:IntKind.i64.wrap (((j+1:Nat):Int)-1)=(j:Int):=by
    rw[show (((j+1:Nat):Int)-1)=(j:Int)by omega];exact IntWalk.i64_in _ (by omega)
   refine zu 26 (by kernel_rfl) (by kernel_rfl) ?_;simp only[yh,yj,yi,yl]
   repeat(go_big_quiet_step ((go_at_call 49;exact Calls.quiet_of_same (dF (by assumption) _))))
   refine wpQuiet_nil ?_;intro nq;go_wp2_with fail;refine(Ar O P S x y s _).mono ?_;rintro e w2 ⟨rfl,M⟩;have A:=oX ⟨O,P,S⟩ ⟨x,y,s⟩;simp only at A;have L:Bw w w2:=(B.trans (below_drewN _ _ nq)).trans (M.mono B.size);generalize orL [cmpI P y,cmpI O x,cmpI S s]=c at A ⊢;by_cases hc:c<0
   ·have N:decide (0<=c)=false:=by simpa using hc
    have R:=yK (A.1 hc);clear A;go_wp2_with fail
    go_roundw
    case rel=>exact⟨j+1+1,by omega,by go_num,jM I.o U.o T.o (λ p _ h=>by rw[kI,HP.o]at h;cases h;exact R.o),L⟩
    case measure=>simp[intOf];omega
   have N:decide (0<=c)=true:=(by simpa using hc);have R:=yK (λ h=>hc (A.2 h));clear A;go_wp2_with fail;go_ret;exact⟨by rw[checkN,Yy h400,Yy (λ h=>rU I.o HP.o R.o h.1)];rfl,L⟩
  obtain rfl:k=l.length:=by omega
  rw[Yc]at H;by_cases hl0:l.length=0
  ·go_wp2;go_ret;exact⟨by rw[checkN,Yy h400,Yy (λ hc=>hc.2 (yT.1 hl0))];rfl,J⟩
  have g:decide ((l.length:Int)=0)=false:=by simpa using hl0
  go_wp2;go_ret;exact⟨by rw[checkN,Yy h400,Yz ⟨H,λ hc=>hl0 (by rw[hc];rfl)⟩];rfl,J⟩
theorem check_any (l:List Q) (v:Value) (w:World) (h:HasQ w v l) :
  Calls Tryz.prog 42 #[v] w λ e w'=>e=.returned (.int .i64 (checkN l))/\Bw w w':=by
 rcases h with⟨rfl,rfl⟩|⟨a,cap,rfl,hlc,hcm,hqs⟩
 case inr=>exact vh l a cap (yJ hlc hcm) w hqs
 go_enter Tryz.func42,Tryz.ntmps42;go_wp2;go_loopw [10] (λ v wr=>v=.int .i64 0/\wr=w) (λ _ _=>0)
 case atStart=>exact⟨rfl,rfl⟩
 case round =>
  obtain⟨rfl,rfl⟩:=hrel;go_wp2;go_ret;exact⟨rfl,yf _ _⟩
