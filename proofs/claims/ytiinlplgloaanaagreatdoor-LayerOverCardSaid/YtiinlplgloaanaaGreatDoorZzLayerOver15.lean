/- Check. -/
import Derived.Test.YtiinlplgloaanaaGreatDoorZzLayerOver14
set_option linter.all false
set_option maxRecDepth 100000
set_option maxHeartbeats 1000000
namespace Go.Proofs.YtiinlplgloaanaaGreatDoor
open Go.RowKit
attribute [local go_sem] Oper.semAt_some
def okQ (l:List Q):Prop:=(∀ q∈l,inQ q)/\Srt l
instance (l:List Q):Decidable (okQ l):=by unfold okQ;infer_instance
def checkN (l:List Q):Nat:=if 400<l.length then 5 else if okQ l/\l≠[]then 0 else 2
theorem qgf (a b:Q):orL [cmpI a.y b.y,cmpI a.x b.x,cmpI a.s b.s]<0↔Q.lt a b:=by
 simp only[orL,cmpI,Q.lt]
 repeat' split
 all_goals (first|omega|(simp at *;omega))
theorem qek {l:List Q} {k:Nat} {q:Q} (h:l[k]?=some q) (h0:okQ (l.take k)) (h1:inQ q) (h2:∀ p,0<k->l[k-1]?=some p->Q.lt p q):okQ (l.take (k+1)):=by
 obtain⟨hk,rfl⟩:=yc.1 h;rw[Ys hk];refine⟨λ r hr=>?_,?_⟩
 ·rcases yY.1 hr with hr|hr
  ·exact h0.1 r hr
  rw[yU.1 hr];exact h1
 rw[Srt,List.pairwise_append];refine⟨h0.2,by simp,λ r hr q' hq'=>?_⟩;rw[yU.1 hq'];obtain⟨j,hj,rfl⟩:=List.mem_iff_getElem.1 hr;rw[Yf]at hj;rw[List.getElem_take];have hl:=h2 l[k-1] (by omega) (yb (by omega));by_cases hjk:j=k-1
 ·subst hjk;exact hl
 have:=List.pairwise_iff_getElem.1 h0.2 j (k-1) (by rw[Yf];omega) (by rw[Yf];omega) (by omega);rw[List.getElem_take,List.getElem_take]at this;exact Q.lt_trans this hl
theorem zb4 {l:List Q} {k:Nat} {q:Q} (h:l[k]?=some q) (hn:¬ inQ q):¬ okQ l:=λ ho=>hn (ho.1 q (yg h))
theorem qf1 {l:List Q} {k:Nat} {p q:Q} (h:l[k+1]?=some q) (hp:l[k]?=some p) (hn:¬ Q.lt p q):¬ okQ l:=λ ho=>by
 obtain⟨hk,rfl⟩:=yc.1 h;obtain⟨hj,rfl⟩:=yc.1 hp;exact hn (List.pairwise_iff_getElem.1 ho.2 k (k+1) hj hk (by omega))
theorem qa3 {n a b:Int} {v:Bool} (h:decide (a<=n/\n<=b)=v) (w:World):Calls Tryz.prog 49 #[.int .i64 n,.int .i64 a,.int .i64 b] w λ e w'=>e=.returned (.bool v)/\w'=w :=
 (qdA n a b w).mono λ e w' h'=>⟨h'.1.trans (by rw[h]),h'.2.symm⟩
theorem zfM (l:List Q) (a:Addr) (cap:Nat) (hlm:l.length<=maxLen) (w:World) (hqs:QsAt w a l) :
  Calls Tryz.prog 42 #[.slice (some a) l.length cap] w λ e w'=>e=.returned (.int .i64 (checkN l))/\Bw w w':=by
 have HS:=yK hqs;clear hqs;by_cases h400:400<l.length
 case pos =>
  go_enter Tryz.func42,Tryz.ntmps42;go_wp2;go_ret;exact⟨by rw[checkN,YA h400];rfl,yf _ _⟩
 go_enter Tryz.func42,Tryz.ntmps42;go_wp2;go_loopw [10] (λ v wr=>∃ k:Nat,k<=l.length/\v=.int .i64 k/\okQ (l.take k)/\Bw w wr) (λ v _=>l.length-(intOf v).toNat)
 case atStart=>exact⟨0,by omega,rfl,⟨by simp,by simp⟩,yf _ _⟩
 case round =>
  obtain⟨k,hk,rfl,H,hB⟩:=hrel;by_cases hlt:k<l.length
  ·obtain⟨q,D⟩:∃ q,l[k]?=some q:=⟨_,yb hlt⟩;have HK:=yK D;have HO:=yK H;have G:=HS.o.below hB;have c0:=G.at0 k q D;have c1:=G.at1 k q D;have c2:=G.at2 k q D;clear D H;obtain⟨x,y,s⟩:=q;go_wp2;have C:=G.below ((yf _ wr).alloc (ye _) (.cells #[.int .i64 x,.int .i64 y,.int .i64 s] 56));have B:=hB.alloc hB.size (.cells #[.int .i64 x,.int .i64 y,.int .i64 s] 56);have d0:=qaC wr [.int .i64 x,.int .i64 y,.int .i64 s] 56 0 _ rfl;have d1:=qaC wr [.int .i64 x,.int .i64 y,.int .i64 s] 56 1 _ rfl;have d2:=qaC wr [.int .i64 x,.int .i64 y,.int .i64 s] 56 2 _ rfl;revert C B d0 d1 d2;show QsAt (wr.alloc (.cells #[.int .i64 x,.int .i64 y,.int .i64 s] 56)) _ _->Below _ _ (wr.alloc (.cells #[.int .i64 x,.int .i64 y,.int .i64 s] 56))->(wr.alloc (.cells #[.int .i64 x,.int .i64 y,.int .i64 s] 56)).cell? _=_->(wr.alloc (.cells #[.int .i64 x,.int .i64 y,.int .i64 s] 56)).cell? _=_->(wr.alloc (.cells #[.int .i64 x,.int .i64 y,.int .i64 s] 56)).cell? _=_->_;generalize wr.alloc (.cells #[.int .i64 x,.int .i64 y,.int .i64 s] 56)=W1;intro C B d0 d1 d2;clear c0 c1 c2 G;by_cases hx:0<=x/\x<=15
   case neg =>
    have vx:decide (0<=x/\x<=15)=false:=(by simpa using hx);go_quiet ((go_at_call 49;exact Calls.quiet_of_same (qa3 (by assumption) _)));go_wp2;go_ret;exact⟨by rw[checkN,Yz h400,Yz (λ hc=>zb4 HK.o (λ hi=>hx ⟨hi.1,by have:=hi.2.1;simp only at this;omega⟩) hc.1)];rfl,B.trans (below_drewN _ _ _)⟩
   have vx:decide (0<=x/\x<=15)=true:=(by simpa using hx);by_cases hy:0<=y/\y<=15
   case neg =>
    have vy:decide (0<=y/\y<=15)=false:=(by simpa using hy);go_quiet ((go_at_call 49;exact Calls.quiet_of_same (qa3 (by assumption) _)));go_wp2;go_ret;exact⟨by rw[checkN,Yz h400,Yz (λ hc=>zb4 HK.o (λ hi=>hy ⟨hi.2.2.1,by have:=hi.2.2.2.1;simp only at this;omega⟩) hc.1)];rfl,B.trans (below_drewN _ _ _)⟩
   have vy:decide (0<=y/\y<=15)=true:=(by simpa using hy);by_cases hs:0<=s/\s<=3
   case neg =>
    have vs:decide (0<=s/\s<=3)=false:=(by simpa using hs);go_quiet ((go_at_call 49;exact Calls.quiet_of_same (qa3 (by assumption) _)));go_wp2;go_ret;exact⟨by rw[checkN,Yz h400,Yz (λ hc=>zb4 HK.o (λ hi=>hs ⟨hi.2.2.2.2.1,by have:=hi.2.2.2.2.2;simp only at this;omega⟩) hc.1)];rfl,B.trans (below_drewN _ _ _)⟩
   have vs:decide (0<=s/\s<=3)=true:=(by simpa using hs);have N:(k:Int)+1<9223372036854775808:=(by have h9:=hlm;simp only[maxLen]at h9;omega);have J:inQ ⟨x,y,s⟩:=⟨hx.1,by simp only;omega,hy.1,by simp only;omega,hs.1,by simp only;omega⟩;have HX:=yK J;clear J;by_cases hk0:k=0
   case pos =>
    subst hk0;go_quiet ((go_at_call 49;exact Calls.quiet_of_same (qa3 (by assumption) _)));go_wp2
    go_roundw
    case rel=>exact⟨1,by omega,by go_num,qek HK.o HO.o HX.o (λ _ h=>absurd h (by omega)),B.trans (below_drewN _ _ _)⟩
    case measure=>simp[intOf];omega
   obtain⟨j,rfl⟩:∃ j,k=j+1:=⟨k-1,by omega⟩;obtain⟨p,F⟩:∃ p,l[j]?=some p:=⟨_,yb (by omega)⟩;have HP:=yK F;have p0:=C.at0 j p F;have p1:=C.at1 j p F;have p2:=C.at2 j p F;clear F C;obtain⟨px,py,ps⟩:=p;have e1:IntKind.i64.wrap (((j+1:Nat):Int)-1)=(j:Int):=by
    rw[show (((j+1:Nat):Int)-1)=(j:Int)by omega];exact IntWalk.i64_in _ (by omega)
   refine zt 26 (by kernel_rfl) (by kernel_rfl) ?_;simp only[yh,yj,yi,yl]
   repeat (go_big_quiet_step ((go_at_call 49;exact Calls.quiet_of_same (qa3 (by assumption) _))))
   refine wpQuiet_nil ?_;intro nq;go_wp2_with fail;refine (qfz px py ps x y s _).mono ?_;rintro e w2 ⟨rfl,L⟩;have A:=qgf ⟨px,py,ps⟩ ⟨x,y,s⟩;simp only at A;have I:Bw w w2:=(B.trans (below_drewN _ _ nq)).trans (L.mono B.size);generalize orL [cmpI py y,cmpI px x,cmpI ps s]=c at A ⊢;by_cases hc:c<0
   ·have K:decide (0<=c)=false:=by simpa using hc
    have HC:=yK (A.1 hc);clear A;go_wp2_with fail
    go_roundw
    case rel=>exact⟨j+1+1,by omega,by go_num,qek HK.o HO.o HX.o (λ p _ h=>by rw[Nat.add_sub_cancel,HP.o]at h;cases h;exact HC.o),I⟩
    case measure=>simp[intOf];omega
   have K:decide (0<=c)=true:=(by simpa using hc);have HC:=yK (λ h=>hc (A.2 h));clear A;go_wp2_with fail;go_ret;exact⟨by rw[checkN,Yz h400,Yz (λ h=>qf1 HK.o HP.o HC.o h.1)];rfl,I⟩
  obtain rfl:k=l.length:=by omega
  rw[Yd]at H;by_cases hl0:l.length=0
  ·go_wp2;go_ret;exact⟨by rw[checkN,Yz h400,Yz (λ hc=>hc.2 (yT.1 hl0))];rfl,hB⟩
  have M:decide ((l.length:Int)=0)=false:=by simpa using hl0
  go_wp2;go_ret;exact⟨by rw[checkN,Yz h400,YA ⟨H,λ hc=>hl0 (by rw[hc];rfl)⟩];rfl,hB⟩
theorem check_any (l:List Q) (v:Value) (w:World) (h:HasQ w v l) :
  Calls Tryz.prog 42 #[v] w λ e w'=>e=.returned (.int .i64 (checkN l))/\Bw w w':=by
 rcases h with⟨rfl,rfl⟩|⟨a,cap,rfl,hlc,hcm,hqs⟩
 case inr=>exact zfM l a cap (yJ hlc hcm) w hqs
 go_enter Tryz.func42,Tryz.ntmps42;go_wp2;go_loopw [10] (λ v wr=>v=.int .i64 0/\wr=w) (λ _ _=>0)
 case atStart=>exact⟨rfl,rfl⟩
 case round =>
  obtain⟨rfl,rfl⟩:=hrel;go_wp2;go_ret;exact⟨rfl,yf _ _⟩
end Go.Proofs.YtiinlplgloaanaaGreatDoor
