/- Beside Layers: the facts of the region that takes a layer into the plan. -/
import Derived.Test.YtiinlplgloaanaaGreatDoorZzLayerTouches35
import Derived.Test.YtiinlplgloaanaaGreatDoorZzLayerTouches43
set_option linter.all false
set_option maxRecDepth 100000
set_option maxHeartbeats 8000000
namespace Go.Proofs.YtiinlplgloaanaaGreatDoor
open Go.Proofs.Tryz Go.RowKit
attribute [local go_sem] Oper.semAt_some
theorem Ba (a b:Ld) (W:World) (n:Nat):(Op.equalIn (n+1+1+1) 50 (.agg (ldVals a).toArray) (.agg (ldVals b).toArray)).run Tryz.prog W=.ok (decide (a=b)) W:=by
 obtain⟨k,m,t,x,y⟩:=a;obtain⟨C,A,B,F,D⟩:=b;rw[run_equalIn_agg W (n+1+1) 50 _ _ (by kernel_rfl) (by kernel_rfl)];by_cases h:k=C <;> by_cases h0:m=A <;> by_cases h1:t=B <;> by_cases h2:x=F <;> by_cases h3:y=D <;> simp[go_sem,ldVals,h,h0,h1,h2,h3]
theorem uN (x y:W3) (W:World) (n:Nat):(Op.equalIn (n+1+1) 105 (.agg #[.int .u64 x.1,.int .u64 x.2.1,.int .u64 x.2.2]) (.agg #[.int .u64 y.1,.int .u64 y.2.1,.int .u64 y.2.2])).run Tryz.prog W=.ok (decide (x=y)) W:=by
 obtain⟨D,G,I⟩:=x;obtain⟨F,H,B⟩:=y;have e:decide (((D,G,I):W3)=(F,H,B))=(((D:Int)==(F:Int))&&(((G:Int)==(H:Int))&&((I:Int)==(B:Int)))):=by
  rw[YL,yS,Yq,Yq,beq_iff_eq,beq_iff_eq,beq_iff_eq,YW,YW];omega
 obtain⟨S,J⟩:∃ i,Tryz.prog.info? 103=some i:=Option.isSome_iff_exists.1 (by kernel_rfl);rw[e,run_equalIn_array W (n+1) _ _ underlying105 J];simp only;have R:Tryz.prog.cellsOf 103=1:=by kernel_rfl
 rw[R,show List.range 3=[0,1,2]from rfl];generalize (D:Int)=a0;generalize (G:Int)=a1;generalize (I:Int)=a2;generalize (F:Int)=c0;generalize (H:Int)=c1;generalize (B:Int)=c2;have L:=aC #[.int .u64 a0,.int .u64 a1,.int .u64 a2] (0*1) (.int .u64 a0) rfl;have M:=aC #[.int .u64 a0,.int .u64 a1,.int .u64 a2] (1*1) (.int .u64 a1) rfl;have C:=aC #[.int .u64 a0,.int .u64 a1,.int .u64 a2] (2*1) (.int .u64 a2) rfl;have N:=aC #[.int .u64 c0,.int .u64 c1,.int .u64 c2] (0*1) (.int .u64 c0) rfl;have O:=aC #[.int .u64 c0,.int .u64 c1,.int .u64 c2] (1*1) (.int .u64 c1) rfl;have K:=aC #[.int .u64 c0,.int .u64 c1,.int .u64 c2] (2*1) (.int .u64 c2) rfl;have A:∀ a c:Int,(Op.equalIn (n+1) 103 (.int .u64 a) (.int .u64 c)).run Tryz.prog W=.ok (a==c) W:=λ a c=>run_equalIn_int (P:=Tryz.prog) W n 103 .u64 .u64 a c underlying103;simp only[Op.eqItems,yG,L,N,A,yz]
 cases a0==c0 <;> cases h1:a1==c1 <;> cases h2:a2==c2 <;> simp only[Bool.not_true,Bool.not_false,if_true,Yn,if_false,yH,yz,yG,M,C,O,K,A,kT,Bool.and_false,kU,Bool.false_and,h1,h2]
theorem rd:∃ f0 f1 f2:Field,Tryz.prog.underlying 152=some (.struct #[f0,f1,f2])/\f0.type=50/\f1.type=103/\f2.type=105/\f0.offset=0/\f1.offset=5/\f2.offset=6/\f0.name≠ "_"/\f1.name≠ "_"/\f2.name≠ "_":=⟨_,_,_,underlying152,rfl,rfl,rfl,rfl,rfl,rfl,by decide,by decide,by decide⟩
theorem rN (a b:HP) (W:World):(Op.equalIn 10000 152 (.agg (hpVals a).toArray) (.agg (hpVals b).toArray)).run Tryz.prog W=.ok (decide (a.ld=b.ld/\a.set=b.set/\a.bord=b.bord)) W:=by
 rw[run_equalIn_agg W 9999 152 _ _ (by kernel_rfl) (by kernel_rfl)];obtain⟨T,Z,f,e,U,Y,M,K,N,O,L,d,R⟩:=rd;have X:(Tryz.prog.fieldsOf 152).toList=[T,Z,f]:=by unfold Program.fieldsOf;rw[e]
 rw[X];have S:=Ba a.ld b.ld W 9996;have I:=uN a.bord b.bord W 9997;have F:(Op.equalIn 9999 103 (.int .u64 a.set) (.int .u64 b.set)).run Tryz.prog W=.ok ((a.set:Int)==(b.set:Int)) W:=run_equalIn_int (P:=Tryz.prog) W 9998 103 .u64 .u64 _ _ underlying103;have V:∀ c:HP,(part 50 (hpVals c).toArray 0).run Tryz.prog W=.ok (.agg (ldVals c.ld).toArray) W:=λ c=>by
  obtain⟨⟨k,m,t,x,y⟩,D,B,C,G⟩:=c;simp[part,go_sem,hpVals,ldVals]
 have H:∀ c:HP,(part 103 (hpVals c).toArray 5).run Tryz.prog W=.ok (.int .u64 c.set) W:=λ c=>by
  obtain⟨⟨k,m,t,x,y⟩,D,B,C,G⟩:=c;exact aC _ 5 _ rfl W
 have J:∀ c:HP,(part 105 (hpVals c).toArray 6).run Tryz.prog W=.ok (.agg #[.int .u64 c.bord.1,.int .u64 c.bord.2.1,.int .u64 c.bord.2.2]) W:=λ c=>by
  obtain⟨⟨k,m,t,x,y⟩,D,B,C,G⟩:=c;simp[part,go_sem,hpVals]
 simp only[Op.eqFields,U,Y,M,K,N,O,L,d,R,ne_eq,not_false_eq_true,if_true,yG,V,H,J,S,F,I,yz];by_cases k0:a.ld=b.ld
 case neg =>
  rw[yv k0,yv (λ h=>k0 h.1)];simp only[Bool.not_false,if_true,yH]
 rw[yw k0];simp only[Bool.not_true,Yn,if_false,yG,H,F,yz];by_cases k1:a.set=b.set
 case neg =>
  have A:((a.set:Int)==(b.set:Int))=false:=by simp only[Ys,ne_eq];omega
  rw[A,yv (λ h=>k1 h.2.1)];simp only[Bool.not_false,if_true,yH]
 have A:((a.set:Int)==(b.set:Int))=true:=by rw[k1];exact beq_self_eq_true _
 rw[A];simp only[Bool.not_true,Yn,if_false,yG,J,I,yz];by_cases k2:a.bord=b.bord
 case neg =>
  rw[yv k2,yv (λ h=>k2 h.2.2)];simp only[Bool.not_false,if_true,yH]
 rw[yw k2,yw ⟨k0,k1,k2⟩];simp only[Bool.not_true,Yn,if_false,yH]
theorem fq {P:Program} {C:World->Prop} {o:Oper} {a:Act} {K:Act->Prop} (ty ty2:TypeId) (x y:Operand) (ho:o.op=.binOp .neq ty x y ty2) {xs ys:Array Value} (hx:a.eval x=.agg xs) (hy:a.eval y=.agg ys) (hm:P.eqGuardType P.depth ty=false) {b:Bool}
  (he:∀ w,C w->(Op.equalIn 10000 ty (.agg xs) (.agg ys)).run P w=.ok b w) (hk:K (a.put o.dst (.bool (!b)))):o.quiet P a C K:=by
 refine⟨.bool (!b),λ w hc=>?_,hk⟩;unfold Oper.quietAt execOp;simp only[ho,hx,hy,yG,run_eqGuard_agg (hm:=hm),yz,run_neq_struct,he w hc,yH];exact⟨rfl,rfl⟩
theorem HP.ext3 {a b:HP} (h:a.ld=b.ld/\a.set=b.set/\a.bord=b.bord):a=b:=by
 obtain⟨a1,a2,a3⟩:=a;obtain⟨b1,b2,b3⟩:=b;obtain⟨h1,h2,h3⟩:=h;simp only at h1 h2 h3;rw[h1,h2,h3]
theorem wM (a b:List HP) (va vb:Value) (w:World) (ha:RP.Has w va a) (hb:RP.Has w vb b) (hl:a.length<=1000000) (hl2:b.length<=1000000) :
  Calls Tryz.prog 102 #[va,vb] w λ e w'=>∃ r:Bool,e=.returned (.bool r)/\(r=true↔a=b)/\Bw w w':=by
 obtain⟨f,c,rfl⟩:=ha.slice;obtain⟨g,l,rfl⟩:=hb.slice;have T:=yK ha;clear ha;have U:=yK hb;clear hb;by_cases hlen:a.length=b.length
 case neg =>
  have hd:((a.length:Int)==(b.length:Int))=false:=by simp only[Ys,ne_eq];omega
  have K:=yK hlen;clear hlen;go_enter func102,ntmps102;go_wp2_with fail;go_ret;exact⟨false,rfl,⟨λ h=>(by cases h),λ h=>kV (YA List.length h) K.o⟩,yf _ _⟩
 case pos =>
  have hd:((a.length:Int)==(b.length:Int))=true:=by rw[hlen];exact beq_self_eq_true _
  have K:=yK hlen;clear hlen;go_enter func102,ntmps102;go_wp2_with fail;clear hd;go_loopw [13] (λ z wr=>∃ i:Nat,i<=a.length/\z=.int .i64 i/\Hid (Bw w wr/\∀ j,j<i->a[j]?=b[j]?)) (λ z _=>a.length-(intOf z).toNat)
  case atStart=>exact⟨0,by omega,rfl,yK ⟨yf _ _,λ j hj=>kV hj (by omega)⟩⟩
  obtain⟨i,k,rfl,B⟩:=hrel;by_cases hlt:i<a.length
  case neg =>
   obtain rfl:i=a.length:=(by omega);go_wp2_with fail;go_ret;refine⟨true,rfl,⟨λ _=>Kd λ j=>?_,λ _=>rfl⟩,B.o.1⟩;rcases kg j a.length with h|h
   ·exact B.o.2 j h
   rw[kq h,kq (by rw[<- K.o];exact h)]
  obtain⟨p,I⟩:∃ p,a[i]?=some p:=⟨_,yb hlt⟩;obtain⟨q,F⟩:∃ q,b[i]?=some q:=⟨_,yb (by rw[<- K.o];exact hlt)⟩;obtain⟨Z,rfl,_⟩:=(T.o.below B.o.1).at_ (by rintro e;rw[e]at I;simp at I);obtain⟨V,rfl,_⟩:=(U.o.below B.o.1).at_ (by rintro e;rw[e]at F;simp at F);have M:∀ d:SubW wr,(Instr.loadAt 152 (.pointer (some (Z.add (i*9))))).run Tryz.prog d.1=.ok (.agg (hpVals p).toArray) d.1:=λ d=>by
   obtain⟨Y,e,G⟩:=(T.o.below (B.o.1.tm d.2)).at_ (by rintro e;rw[e]at I;simp at I)
   cases e
   exact zl (P:=Tryz.prog) (R:=RP) underlying152 rfl sizeP G I
  have L:∀ d:SubW wr,(Instr.loadAt 152 (.pointer (some (V.add (i*9))))).run Tryz.prog d.1=.ok (.agg (hpVals q).toArray) d.1:=λ d=>by
   obtain⟨X,e,G⟩:=(U.o.below (B.o.1.tm d.2)).at_ (by rintro e;rw[e]at F;simp at F)
   cases e
   exact zl (P:=Tryz.prog) (R:=RP) underlying152 rfl sizeP G F
  have D:=rN p q;have C:=yK (YP I F);clear I F;have W:(i:Int)<(b.length:Int):=by have:=K.o;omega
  by_cases hpq:p.ld=q.ld/\p.set=q.set/\p.bord=q.bord
  case neg =>
   have A:∀ d:SubW wr,(Op.equalIn 10000 152 (.agg (hpVals p).toArray) (.agg (hpVals q).toArray)).run Tryz.prog d.1=.ok false d.1:=λ d=>by rw[D d.1,yv hpq]
   have O:=yK hpq;clear hpq D;go_upto_region 6 with fail;refine zg 9 (by kernel_rfl) (by kernel_rfl) ?_;simp only[yh,yj,yi,yl]
   repeat(first|((first|(go_big_quiet_want;refine zx 152 _ rfl rfl (by rintro w ⟨d,rfl⟩;exact M d) ?_;simp only[Act.put,yr,yF,yE];go_big_quiet_on)|(go_big_quiet_want;refine zx 152 _ rfl rfl (by rintro w ⟨d,rfl⟩;exact L d) ?_;simp only[Act.put,yr,yF,yE];go_big_quiet_on)|(go_big_quiet_want;refine fq 152 _ _ _ rfl rfl rfl (by kernel_rfl) (by rintro w ⟨d,rfl⟩;exact A d) ?_;simp only[Act.put,yr,yF,yE,Bool.not_true,Bool.not_false];go_big_quiet_on)))|go_big_quiet_step (fail))
   refine wpQuiet_nil ?_;intro dq;have J:=yK (B.o.1.tm dq.2);clear M L A B;revert J;generalize dq.1=wu;intro J;go_wp2_with fail;go_ret;refine⟨false,rfl,⟨λ h=>(by cases h),λ h=>?_⟩,J.o⟩;have S:=C.o.1;rw[h,C.o.2]at S
   cases S
   exact kV ⟨rfl,rfl,rfl⟩ O.o
  have A:∀ d:SubW wr,(Op.equalIn 10000 152 (.agg (hpVals p).toArray) (.agg (hpVals q).toArray)).run Tryz.prog d.1=.ok true d.1:=λ d=>by rw[D d.1,yw hpq]
  have N:=yK (HP.ext3 hpq);clear hpq D;go_upto_region 6 with fail;refine zg 9 (by kernel_rfl) (by kernel_rfl) ?_;simp only[yh,yj,yi,yl]
  repeat(first|((first|(go_big_quiet_want;refine zx 152 _ rfl rfl (by rintro w ⟨d,rfl⟩;exact M d) ?_;simp only[Act.put,yr,yF,yE];go_big_quiet_on)|(go_big_quiet_want;refine zx 152 _ rfl rfl (by rintro w ⟨d,rfl⟩;exact L d) ?_;simp only[Act.put,yr,yF,yE];go_big_quiet_on)|(go_big_quiet_want;refine fq 152 _ _ _ rfl rfl rfl (by kernel_rfl) (by rintro w ⟨d,rfl⟩;exact A d) ?_;simp only[Act.put,yr,yF,yE,Bool.not_true,Bool.not_false];go_big_quiet_on)))|go_big_quiet_step (fail))
  refine wpQuiet_nil ?_;intro dq;have H:Hid (Bw w dq.1/\∀ j,j<i+1->a[j]?=b[j]?):=yK ⟨B.o.1.tm dq.2,λ j hj=>by
   rcases (by omega:j<i\/j=i)with h|rfl
   ·exact B.o.2 j h
   rw[C.o.1,C.o.2,N.o]⟩
  clear M L A B;revert H;generalize dq.1=wu;intro H;go_wp2_with fail
  go_roundw
  case rel=>exact⟨i+1,by omega,by go_num,H⟩
  case measure=>simp[intOf];omega
theorem wH (S:HS) (a last:List HP) (vl:Value) (lb:Nat) (w:World) (ha:RP.Has w S.laid a) (hb:RP.Has w vl last) (hbox:w.heap[lb]?=some (.cells #[vl] 102 (0,0))) (hl:a.length<=1000000) (hl2:last.length<=1000000) :
  Calls Tryz.prog 101 #[.agg (hsVals S).toArray,.pointer (some ⟨lb,0,none⟩)] w λ e w'=>∃ r:Bool,e=.returned (.bool r)/\(r=true↔a=last)/\Bw w w':=by
 have H:=yd w (.cells (hsVals S).toArray 108);have D:Bw w (w.alloc (.cells (hsVals S).toArray 108)):=(yf _ w).alloc (ye _) _;have B:=heapO (.cells (hsVals S).toArray 108) hbox;have C:=ha.below D;have A:=hb.below D;clear ha hb hbox;obtain⟨L,K,I,G,O,R,N⟩:=S;obtain⟨Y,T,rfl⟩:=A.slice;go_enter func101,ntmps101;go_upto_region 1 with fail;revert H D B C A;change _->_->_->_->_->Code.wp _ _ _ _ (w.alloc (.cells (hsVals ⟨L,K,I,G,O,R,N⟩).toArray 108));generalize w.alloc (.cells (hsVals ⟨L,K,I,G,O,R,N⟩).toArray 108)=w1;intro H D C B A;have M:=yK (wM a last _ _ w1 C A hl hl2);have W:=yK D;clear D C A;have U:w1.cell? ⟨w.heap.size,0,none⟩=some (.slice L K I):=by simp only[World.cell?,H];rfl
 have V:w1.cell? ⟨lb,0,none⟩=some (.slice Y last.length T):=by simp only[World.cell?,B];rfl
 clear H B;go_wp2_with fail;refine M.o.mono ?_;rintro e w2 ⟨r,rfl,P,F⟩;have X:=yK P;clear P;have J:=yK (W.o.tm F);clear F M U V;go_wp2_with fail;go_ret;exact⟨r,rfl,X.o,J.o⟩
theorem AN (Ss:List HS) (As:List (List HP)) (v vl:Value) (last:List HP) (lb:Nat) (w:World) (h:RS.Has w v Ss) (hlen:Ss.length=As.length) (hsm:Ss.length<=20000) (hent:∀ (i:Nat) (S:HS) (a:List HP),Ss[i]?=some S->As[i]?=some a->RP.Has w S.laid a/\a.length<=64)
  (hb:RP.Has w vl last) (hl2:last.length<=1000000) (hbox:w.heap[lb]?=some (.cells #[vl] 102 (0,0))) :
  Calls Tryz.prog 100 #[v,.func (.func 101) #[] #[.pointer (some ⟨lb,0,none⟩)]] w λ e w'=>∃ r:Int,e=.returned (.int .i64 r)/\Bw w w' /\
   ((∃ i:Nat,r=i/\As[i]?=some last/\∀ j:Nat,j<i->As[j]?≠some last)\/(r=-1/\∀ j:Nat,As[j]?≠some last)):=by
 obtain⟨c,b,rfl⟩:=h.slice;have U:=yK h;clear h;have J:=yK hlen;clear hlen;have O:=yK hent;clear hent;have W:=yK hb;clear hb;have C:=yK hbox;clear hbox;go_enter func100,ntmps100;go_wp2_with fail;go_loopw [8] (λ z wr=>∃ k:Nat,k<=Ss.length/\z=.int .i64 k/\Hid (Bw w wr/\∀ j:Nat,j<k->As[j]?≠some last)) (λ z _=>Ss.length-(intOf z).toNat)
 case atStart=>exact⟨0,YB _,rfl,yK ⟨yf _ _,λ j hj=>kV hj (by omega)⟩⟩
 case round =>
  obtain⟨k,d,rfl,B⟩:=hrel;by_cases hlt:k<Ss.length
  case pos =>
   obtain⟨S,V⟩:∃ S,Ss[k]?=some S:=⟨_,yb hlt⟩;obtain⟨a,L⟩:∃ a,As[k]?=some a:=⟨_,yb (by rw[<- J.o];exact hlt)⟩;obtain⟨Z,rfl,G⟩:=(U.o.below B.o.1).at_ (by rintro e;rw[e]at hlt;simp at hlt);have K:(Instr.loadAt 108 (.pointer (some (Z.add (k*16))))).run Tryz.prog wr=.ok (.agg (hsVals S).toArray) wr:=zl (P:=Tryz.prog) (R:=RS) underlying108 rfl sizeS G V;obtain⟨H,N⟩:=O.o k S a V L;have X:=yK (wH S a last vl lb wr (H.below B.o.1) (W.o.below B.o.1) ((B.o.1.block _ (ya.1 C.o).1).trans C.o) (by omega) hl2);have I:=yK L;clear L G H N V;go_wp2_with (refine qo rfl 108 _ rfl rfl K ?_);refine X.o.mono ?_;rintro e w1 ⟨r,rfl,Y,D⟩;have F:=yK (B.o.1.tm D);clear D X K;have A:=yK Y;clear Y
   cases r with
   | true =>
    have M:Hid (a=last):=yK (A.o.1 rfl);clear A;go_wp2_with fail;go_ret;exact⟨(k:Int),rfl,F.o,.inl ⟨k,rfl,by rw[I.o,M.o],B.o.2⟩⟩
   | false =>
    have T:Hid (a≠last):=yK λ h=>kV (A.o.2 h) (by decide);clear A;go_wp2_with fail
    go_roundw
    case rel =>
     refine⟨k+1,by omega,by go_num,yK ⟨F.o,λ j hj=>?_⟩⟩;rcases (by omega:j<k\/j=k)with h|rfl
     ·exact B.o.2 j h
     rw[I.o];exact λ h=>T.o (YX h)
    case measure=>simp only[intOf];omega
  obtain rfl:k=Ss.length:=by omega
  go_wp2_with fail;go_ret;refine⟨-1,rfl,B.o.1,.inr ⟨rfl,λ j h=>?_⟩⟩;exact B.o.2 j (by rw[J.o];exact(yc.1 h).1) h
theorem rA {t:Tk} {L:List E} {x y:List Pc} (hx:∀ p∈x,p∈(piecesT t).flatten) (hy:∀ p∈y,p∈(piecesT t).flatten) (h:x.map (hpT t.ground L)=y.map (hpT t.ground L)):x=y:=by
 refine AF hx hy ?_;have:=YA (List.map (·.ld)) h;rw[kl,kl]at this;exact this
theorem fY {t:Tk} {L:List E} {Ts:List (List Pc)} {x:List Pc} (hm:∀ T∈Ts,∀ p∈T,p∈(piecesT t).flatten) (hx:∀ p∈x,p∈(piecesT t).flatten) (j:Nat):(Ts.map λ T=>T.map (hpT t.ground L))[j]?=some (x.map (hpT t.ground L))↔Ts[j]?=some x:=by
 rw[yQ];constructor
 ·intro h
  cases hT:Ts[j]? with
  | none=>rw[hT]at h;cases h
  | some T =>
   rw[hT]at h;simp only[kr,yo]at h;rw[rA (hm T (yg hT)) hx h]
 intro h;rw[h];rfl
theorem xK {Ts:List (List Pc)} {x:List Pc} {i:Nat} (h:Ts[i]?=some x) (hn:∀ j:Nat,j<i->Ts[j]?≠some x):Ts.findIdx? (λ y=>decide (y=x))=some i:=by
 obtain⟨A,rfl⟩:=yc.1 h;rw[List.findIdx?_eq_some_iff_getElem];refine⟨A,by simp,λ j hj=>?_⟩;simp only[yS];intro e;exact hn j hj (by rw[yb (by omega),e])
theorem Az {Ts:List (List Pc)} {x:List Pc} (hn:∀ j:Nat,Ts[j]?≠some x):Ts.findIdx? (λ y=>decide (y=x))=none:=by
 rw[List.findIdx?_eq_none_iff];intro y hy;obtain⟨j,A⟩:=yV hy;simp only[decide_eq_false_iff_not];rintro rfl;exact hn j A
theorem uO {t:Tk} {L:List E} (ho:OkT t) (ok:TkOk t L) (w:World) (bb:Nat) (bv:BV) (hbd:BdAt w bb bv t L (pcsT t L) (belT t L)) (htb:TbAt w) (hroot:RootOk t L bb bv w)
  (x:List Pc) (hx0:x≠[]) (hxm:∀ p∈x,p∈(piecesT t).flatten) (hx64:x.length<=64) (vl:Value) (hv:RP.Has w vl (x.map (hpT t.ground L))) :
  Calls Tryz.prog 48 #[.pointer (some ⟨bb,0,none⟩),vl] w λ e w'=>∃ v,e=.returned (.tuple #[v,.int .i64 (nextT t x).2])/\RL.Own w' w.heap.size v (nextT t x).1/\Bw w w':=by
 have B1:∀ s,rootT t=some s->GoodT t s:=λ s hs=>dZ hs;obtain⟨U,V,rfl⟩:∃ U V,vl=.slice (some U) (x.map (hpT t.ground L)).length V:=by
  rcases hv with⟨_,h⟩|⟨a,c,h,_⟩
  ·exact kV (List.map_eq_nil_iff.1 h) hx0
  exact⟨a,c,h⟩
 rw[yB]at hv ⊢;have C:Bw w (w.alloc (.cells #[.slice (some U) x.length V] 102)):=(yf _ w).alloc (ye _) _;have I:=yd w (.cells #[.slice (some U) x.length V] 102);have A6:(w.alloc (.cells #[.slice (some U) x.length V] 102)).heap.size=w.heap.size+1:=yp _ _;have F:=yK (dX ho ok _ bb bv (hbd.keep C) (htb.below C) (hroot.below C));have g:=yK (ci t);have W:=yK (λ T h=>fH (T:=T) ok h B1);have N:Hid (∀ T∈(tilingsT t).1,∀ p∈T,p∈(piecesT t).flatten):=yK λ T J=>(jy ho J).good.mem;have G:Hid (nextT t x=if (tilingsT t).2.2≠0 then([],(tilingsT t).2.2)else match (tilingsT t).1[match (tilingsT t).1.findIdx? (λ y=>decide (y=x))with|some i=>i+1|none=>0]? with|none=>([],7)|some y=>(y.map (·.ld),0)):=yK rfl;have C0:=yK hv;clear hv;have A0:=yK hxm;clear hxm;clear ho ok B1 hbd htb hroot hx0;revert F g W N G;generalize tilingsT t=R;obtain⟨O,nn,K⟩:=R;simp only;intro F g W N G;obtain⟨Y,A7⟩:∃ Y,nextT t x=Y:=⟨_,rfl⟩;rw[A7]at G ⊢;clear A7;obtain⟨Y,fc⟩:=Y;go_enter func48,ntmps48;go_wp2_with fail;revert F I C A6;generalize w.alloc (.cells #[.slice (some U) x.length V] 102)=w1;intro C I A6 F;refine F.o.mono ?_;rintro e w2 ⟨v,rfl,n,z⟩;obtain⟨vp,vc,rfl⟩:=n.slice;have q:=(z.block _ (ya.1 I).1).trans I;have f:=C.tm z;have A1:=yK n;clear n;have l:=yK f;have C6:=f.size;clear C z I f F;by_cases hc:K=0
 case neg =>
  have hb:((K:Int) != 0)=true:=by simpa using hc
  have HF:Hid ((Y,fc)=([],K)):=yK (by rw[G.o,Yz hc]);go_wp2_with fail;go_ret2;have h:=HF.o;simp only[YW]at h;obtain⟨rfl,rfl⟩:=h;exact⟨_,rfl,RL.own_nil _ _,l.o⟩
 case pos =>
  subst hc;have c3:w2.cell? ⟨w.heap.size,0,none⟩=some (.slice (some U) x.length V):=by simp[World.cell?,q]
  have B5:(binOp .neq 102 (.slice (some U) x.length V) (.slice none 0 0)).run Tryz.prog w2=.ok (.bool true) w2:=by kernel_rfl
  obtain⟨Ss,H,A,B⟩:=A1.o;have C2:O.length<=20000:=g.o.1;have B0:=yK (AN Ss (O.map λ T=>T.map (hpT t.ground L)) (.slice vp O.length vc) (.slice (some U) x.length V) (x.map (hpT t.ground L)) w.heap.size w2 (REnc.Own.has H) (by rw[yB];exact A) (by omega)
   (λ i S a hS ha=>by
    rw[yQ]at ha
    cases J:O[i]? with
    | none=>rw[J]at ha;cases ha
    | some T =>
     rw[J]at ha;simp only[kr,yo]at ha;subst ha;exact⟨(B i S T hS J).2.has,by rw[yB];exact W.o T (yg J)⟩)
   (C0.o.below l.o) (by rw[yB];omega) q)
  clear B H A;go_wp2_with fail;refine B0.o.mono ?_;rintro e w3 ⟨r,rfl,k,hr⟩;have B4:=yK (A1.o.below k);have A2:=yK (l.o.tm k);clear k B0 A1 B5 c3 q;obtain⟨m,B3,C3,b⟩:∃ m:Nat,r=(m:Int)-1/\m<=20001/\((Y,fc)=match O[m]? with|none=>([],7)|some y=>(y.map (·.ld),0)):=by
   have M:=G.o;rw[Yy (by decide)]at M;rcases hr with⟨i,rfl,h1,h2⟩|⟨rfl,h2⟩
   ·have k1:=(fY N.o A0.o i).1 h1;have k2:∀ j:Nat,j<i->O[j]?≠some x:=λ j hj h=>h2 j hj ((fY N.o A0.o j).2 h);rw[xK k1 k2]at M;exact⟨i+1,by omega,by have:=(yc.1 k1).1;omega,M⟩
   rw[Az λ j h=>h2 j ((fY N.o A0.o j).2 h)]at M;exact⟨0,by omega,by omega,M⟩
  subst B3;have D:=yK b;clear b hr G;have C4:(1:Int)+((m:Int)-1)=m:=by omega
  have C5:IntKind.i64.wrap (m:Int)=m:=by rw[IntKind.wrap_i64];omega
  have d:w.heap.size<=w3.heap.size:=A2.o.size;by_cases hlt:m<O.length
  case neg =>
   have hd:decide ((O.length:Int)<=(m:Int))=true:=yw (by omega);have HF:Hid ((Y,fc)=([],7)):=yK (by rw[D.o,kq (by omega)]);clear D;go_wp2_with fail;go_ret2;have h:=HF.o;simp only[YW]at h;obtain⟨rfl,rfl⟩:=h;exact⟨_,rfl,RL.own_nil _ _,A2.o⟩
  have hd:decide ((O.length:Int)<=(m:Int))=false:=yv (by omega);obtain⟨T,J⟩:∃ T,O[m]?=some T:=⟨_,yb hlt⟩;have HF:Hid ((Y,fc)=(T.map (·.ld),0)):=yK (by rw[D.o,J]);clear D;obtain⟨B8,H,A,B⟩:=B4.o;obtain⟨S,hS⟩:∃ S,B8[m]?=some S:=⟨_,yb (by rw[A];exact hlt)⟩;obtain⟨C1,X⟩:=B m S T hS J;have Z:=REnc.Own.has H;obtain⟨xa,B7,A8⟩:=Z.at_ (by rintro e;rw[e]at hS;simp at hS);subst B7;have A5:(Instr.loadAt 108 (.pointer (some (xa.add (m*16))))).run Tryz.prog w3=.ok (.agg (hsVals S).toArray) w3:=zl (P:=Tryz.prog) (R:=RS) underlying108 rfl sizeS A8 hS;have B2:=fI S (T.map (hpT t.ground L)) w3 X.has (by rw[yB];have:=W.o T (yg J);omega);have A3:=yK B2;clear B2;have HM:Hid (T.map (·.ld)=(T.map (hpT t.ground L)).map (·.ld)):=yK (by rw[kl];rfl);clear C1 X Z A8 B H A hS J;go_wp2_with (refine qo rfl 108 _ rfl rfl A5 ?_);refine A3.o.mono ?_;rintro e w4 ⟨v,rfl,A4,A9⟩;have B9:=yK A4;clear A4;have B6:=yK A9;clear A9;clear A3 A5;go_wp2_with fail;go_ret2;have h:=HF.o;simp only[YW]at h;obtain⟨rfl,rfl⟩:=h;refine⟨_,rfl,?_,A2.o.trans (B6.o.mono d)⟩;rw[HM.o];exact qP B9.o d
theorem tI {t:Tk} (ho:OkT t) {x:List Pc} (h:TlT t x):x≠[]:=by
 rintro rfl;obtain⟨q,hq⟩:=YF _ (qj ho.ground).2.1;have:=(BI ho h.good h.full q).2 hq;simp at this
theorem wk {g:List Q} (hl:g.length*24<=140737488351232) (W:World) (gp:Option Addr) (gc:Nat) (hv:HasQ W (.slice gp g.length gc) g) :
  ∃ vg W2,(Builtin.append_ #[22,22] 22 #[.slice (some ⟨W.heap.size,0,none⟩) 0 0,.slice gp g.length gc]).run Tryz.prog (W.alloc (.cells #[] 56))=.ok vg W2/\OwnQ W2 W.heap.size vg g/\Bw W W2:=by
 obtain⟨N,D,H,F,G⟩:=info_parts infoQ;have A:(W.alloc (.cells #[] 56)).ownsRow W.heap.size 56 3 (.slice (some ⟨W.heap.size,0,none⟩) 0 0) 0 []:=⟨rfl,.inr ⟨W.heap.size,0,#[],rfl,ye _,yd W _,ye _,by decide,rfl,rfl⟩⟩;have B:Bw W (W.alloc (.cells #[] 56)):=(yf _ W).alloc (ye _) _;rcases hv with⟨C,I⟩|⟨a,cap,C,I,h3,h4⟩
 ·subst I;simp only[yC,yN,true_and]at C;obtain⟨rfl,rfl⟩:=C;exact⟨_,_,run_append_nil _ _,A,B⟩
 ·simp only[yC,true_and]at C;obtain⟨rfl,rfl⟩:=C;obtain⟨K,R,M,J,L,_,_⟩:=run_append_own_at (P:=Tryz.prog) (W.alloc (.cells #[] 56)) W.heap.size 22 22 56 N _ 3 24 underlying22 D H F G rfl (by decide) (.slice (some ⟨W.heap.size,0,none⟩) 0 0) 0 [] A a g.length gc (qCells g) (eZ g) (uu (h4.below B)) (λ u hu=>by
   obtain⟨q,_,O⟩:=kX.1 hu;exact aV q u O) (by simp only[maxLen];omega) (by omega) (by rw[yp];omega)
  exact⟨K,R,M,by simpa using J,B.grown L (by rw[yp];omega) λ b e=>by simp only[Value.ownBlock,yo]at e;omega⟩
def NextPost (t:Tk) (l:List Ld) (w:World) (e:Ending) (w':World):Prop:=∃ (u:Value) (code:Nat),e=.returned (.tuple #[u,.int .i64 code])/\Bw w w' /\
 ((u=.slice none 0 0/\((¬ OkT t/\code=2)\/(OkT t/\16<l.length/\code=5)\/(OkT t/\l.length<=16/\coversT t l≠(0,0)/\code=9))) \/
  (OkT t/\l.length<=16/\coversT t l=(0,0)/\RL.Own w' w.heap.size u (nextT t (parts t l)).1/\code=(nextT t (parts t l)).2))
theorem sg {t:Tk} (w:World) (vg vk vc vf vb v:Value) (hg:HasQ w vg t.ground) (hk:HasQQ w vk t.kinds) (hc:RI.Has w vc t.counts) (hcf:flatV vc) (hf:RL.Has w vf t.fixed) (hb:RE.Has w vb t.below) (hcl:t.counts.length<=1000) (hbl:t.below.length<=1000000) (htb:TbAt w) (l:List Ld) (hll:l.length<=1000000) (hv:RL.Has w v l) :
  Calls Tryz.prog 28 #[.agg #[vg,vk,vc,vf,vb],v] w (NextPost t l w):=by
 obtain⟨U,R,rfl⟩:=hg.slice;obtain⟨Z,V,rfl⟩:=hk.slice;obtain⟨a,Y,rfl⟩:=hc.slice;obtain⟨N,P,rfl⟩:=hf.slice;obtain⟨K,M,rfl⟩:=hb.slice;obtain⟨vp,vq,rfl⟩:=hv.slice;have f:Hid (∀ W,Bw w W->Calls Tryz.prog 54 #[.agg (tA t U R Z V a Y N P K M),.slice vp l.length vq] W (zcD t l (.slice K t.below.length M) W)):=yK λ W h=>jo W _ _ _ _ _ _ (hg.below h) (hk.below h) (hc.below h) hcf (hf.below h) (hb.below h) hcl hbl (htb.below h) l hll (hv.below h);have z:=yK htb;clear htb hg hk hc hcf hf hb hv;have q:=yd w (.cells (tA t U R Z V a Y N P K M) 34);have k:Bw w (w.alloc (.cells (tA t U R Z V a Y N P K M) 34)):=(yf _ w).alloc (ye _) _;have i:(Tryz.prog.info? 34).map (·.size)=some (#[.slice U t.ground.length R,.slice Z t.kinds.length V,.slice a t.counts.length Y,.slice N t.fixed.length P,.slice K t.below.length M]:Array Value).size:=sizeTask;go_enter func28,ntmps28;go_upto_region 1 with fail;revert q k;change _->_->Code.wp _ _ _ _ (w.alloc (.cells (tA t U R Z V a Y N P K M) 34));generalize w.alloc (.cells (tA t U R Z V a Y N P K M) 34)=w1;intro q k;have n:=yK k;clear k;go_wp2_with (refine Ya rfl 34 _ rfl w.heap.size rfl 34 (tA t U R Z V a Y N P K M) (0,0) _ q underlying34 rfl i ?_);refine(f.o w1 n.o).mono ?_;rintro e w2 ⟨j,O⟩;have T:=yK (n.o.tm j);have A3:w.heap.size<=w1.heap.size:=n.o.size;clear q j n i f;rcases O with⟨F,rfl,b⟩|⟨bb,bv,L,S,rfl,hok,hlen,hcv,hbd,hL,hSt,hown,_⟩
 case inl =>
  have A1:=yK b;have hb:((F:Int) != 0)=true:=by
   have:F≠0:=by rcases b with⟨_,h⟩|⟨_,_,h⟩|⟨_,_,_,h⟩ <;> omega
   simpa using this
  have I:(Tryz.prog.info? 108).map (·.size)=some (hsVals zeroS).toArray.size:=sizeS;have B:(hsVals zeroS).toArray.all (·.oneCell')=true:=by simp[hsVals,zeroS,Value.oneCell']
  have g:Bw w ((w2.alloc (.cells (hsVals zeroS).toArray 108))):=T.o.alloc T.o.size _;have A0:=yK g;clear g b;go_wp2_with (refine wpList_store_row rfl 108 _ _ rfl w2.heap.size rfl 108 _ (hsVals zeroS).toArray rfl (yd w2 _) I rfl B ?_;rw[World.setRow_alloc_new]);go_ret2;exact⟨_,F,rfl,A0.o,.inl ⟨rfl,A1.o⟩⟩
 case inr =>
  obtain⟨A,y⟩:=jX hok hcv;obtain⟨x,hx⟩:∃ x,parts t l=x:=⟨_,rfl⟩;rw[hx]at A hown hSt;have HX:=yK hx;clear hx y;have d:=tI hok A.toTlT;have s:=mx hok A.toTlT;have I:(Tryz.prog.info? 108).map (·.size)=some (hsVals S).toArray.size:=sizeS;have B:(hsVals S).toArray.all (·.oneCell')=true:=by simp[hsVals,Value.oneCell']
  have H:Bw w2 (w2.alloc (.cells (hsVals S).toArray 108)):=(yf _ w2).alloc (ye _) _;have J:=yd w2 (.cells (hsVals S).toArray 108);have C:=yK (T.o.tm H);have G:=yK (uO hok (aA hok hL) _ bb bv (hbd.keep H) (z.o.below C.o) (λ W' hb' _=>cR (aA hok hL) W' bb bv hb') x d A.good.mem (by omega) S.laid (REnc.Own.has (qf hown H)));have D:Hid (OkT t/\l.length<=16/\coversT t l=(0,0)):=yK ⟨hok,hlen,hcv⟩;clear hok hlen hcv hbd hL hSt hown A d s H;obtain⟨r,p,m,X,sb,sj,sm⟩:=S;go_upto_region 2 with(refine wpList_store_row rfl 108 _ _ rfl w2.heap.size rfl 108 _ (hsVals ⟨r,p,m,X,sb,sj,sm⟩).toArray rfl (yd w2 _) I rfl B ?_;rw[World.setRow_alloc_new]);revert J C G;change _->_->_->Code.wp _ _ _ _ (w2.alloc (.cells (hsVals ⟨r,p,m,X,sb,sj,sm⟩).toArray 108));generalize w2.alloc (.cells (hsVals ⟨r,p,m,X,sb,sj,sm⟩).toArray 108)=w3;intro J C G;have c0:w3.cell? ⟨w2.heap.size,0,none⟩=some (.slice r p m):=by simp only[World.cell?,J];rfl
  clear J I B;go_wp2_with fail;refine G.o.mono ?_;rintro e w4 ⟨u,rfl,hu,c⟩;have A2:=yK (C.o.tm c);have HU:=yK (qP hu (show w.heap.size<=w3.heap.size from C.o.size));clear c hu G c0;go_wp2_with fail;go_ret2;refine⟨u,_,rfl,A2.o,.inr ⟨D.o.1,D.o.2.1,D.o.2.2,?_,?_⟩⟩
  ·rw[HX.o];exact HU.o
  rw[HX.o]
def WhyPost (t:Tk) (w:World) (e:Ending) (w':World):Prop:=∃ r code:Nat,e=.returned (.tuple #[.int .i64 r,.int .i64 code])/\Bw w w'/\(OkT t->(r,code)=whyT t)/\(¬ OkT t->r=0/\code=2)
theorem tV {t:Tk} (w:World) (vg vk vc vf vb:Value) (hg:HasQ w vg t.ground) (hk:HasQQ w vk t.kinds) (hc:RI.Has w vc t.counts) (hcf:flatV vc) (hf:RL.Has w vf t.fixed) (hb:RE.Has w vb t.below) (hcl:t.counts.length<=1000) (hbl:t.below.length<=1000000) (htb:TbAt w) :
  Calls Tryz.prog 24 #[.agg #[vg,vk,vc,vf,vb]] w (WhyPost t w):=by
 obtain⟨l,y,rfl⟩:=hg.slice;obtain⟨k,q,rfl⟩:=hk.slice;obtain⟨m,r,rfl⟩:=hc.slice;obtain⟨g,p,rfl⟩:=hf.slice;obtain⟨i,x,rfl⟩:=hb.slice;have A0:Hid (∀ W,Bw w W->Calls Tryz.prog 13 #[.agg (tA t l y k q m r g p i x)] W (CkPost t W)):=yK
  λ W h=>bE W _ _ _ _ _ (hg.below h) (hk.below h) (hc.below h) (hf.below h) (hb.below h) hcl hbl
 have X:Hid (∀ W,Bw w W->OkT t->Calls Tryz.prog 37 #[.agg (tA t l y k q m r g p i x)] W λ e w'=>∃ (M:Nat) (n:BV) (L:List E),e=.returned (.pointer (some ⟨M,0,none⟩))/\W.heap.size<=M/\BdAt w' M n t L (pcsT t L) (belT t L)/\LOk t.ground L/\Bw W w'):=yK
  λ W h ho=>gh ho W _ _ _ _ _ (hg.below h) (hk.below h) (hc.below h) hcf (hf.below h) (hb.below h)
 have B1:=yK htb;clear htb hg hk hc hf hb hcf;go_enter func24,ntmps24;go_wp2_with fail;have hT:=yd w (.cells (tA t l y k q m r g p i x) 34);have hB:Bw w (w.alloc (.cells (tA t l y k q m r g p i x) 34)):=(yf _ w).alloc (ye _) _;revert hT hB;generalize w.alloc (.cells (tA t l y k q m r g p i x) 34)=w1;intro hT hB;have HB:=yK hB;clear hB;have A1:=(ya.1 hT).1;refine(A0.o w1 HB.o).mono ?_;rintro e w2 ⟨C,rfl,h0,h2,c⟩;have A6:=(c.block _ A1).trans hT;have O:=yK (HB.o.tm c);clear c HB A1;have A:∀ j,w2.cell? ⟨w.heap.size,j,none⟩=(#[.slice l t.ground.length y,.slice k t.kinds.length q,.slice m t.counts.length r,.slice g t.fixed.length p,.slice i t.below.length x]:Array Value)[j]?:=λ j=>by simp only[World.cell?,A6];simp
 have c0:=A 0;have c1:=A 1;have c2:=A 2;have c3:=A 3;have c4:=A 4;simp at c0 c1 c2 c3 c4;clear A hT A0 A6;rcases h2 with rfl|rfl
 case inr =>
  have HN:Hid (¬ OkT t):=yK λ h=>kV (h0.2 h) (by decide);clear X h0 c0 c1 c2 c3 c4;go_wp2_with fail;go_ret2;exact⟨0,2,rfl,O.o,λ h=>kV h HN.o,λ _=>⟨rfl,rfl⟩⟩
 case inl =>
  have B:Hid (OkT t):=yK (h0.1 rfl);have HL:=yK (X.o w2 O.o B.o);clear X h0;go_wp2_with fail;refine HL.o.mono ?_;rintro e w3 ⟨M,n,L,rfl,B2,Z,I,z⟩;have B3:=yK (O.o.tm z);clear z HL;have d:=yK I;clear I;have A9:=yK Z;have A2:=yK (cR (aA B.o d.o) w3 M n Z);clear Z c0 c1 c2 c3 c4 B2;go_wp2_with fail;refine A2.o.mono ?_;rintro e w4 ⟨S,b,rfl,J,A5,V⟩;have N:=yK (A9.o.keep V);have B5:=yK (B3.o.tm V);have HY:Hid (b=true->∃ s,rootT t=some s):=yK λ h=>(J h).imp λ s hs=>hs.1;have f:=yK A5;clear A2 A9 V J A5;have B0:(Tryz.prog.info? 108).map (·.size)=some (hsVals S).toArray.size:=sizeS;have K:(hsVals S).toArray.all (·.oneCell')=true:=by simp[hsVals,Value.oneCell']
  have P:Bw w4 (w4.alloc (.cells (hsVals S).toArray 108)):=(yf _ w4).alloc (ye _) _;have F:=yK (B5.o.tm P);have D:=yK (N.o.keep P);clear P N;go_upto_region 6 with(refine wpList_store_row rfl 108 _ _ rfl w4.heap.size rfl 108 _ (hsVals S).toArray rfl (yd w4 _) B0 rfl K ?_;rw[World.setRow_alloc_new]);clear B0 K;revert F D;change _->_->Code.wp _ _ _ _ (w4.alloc (.cells (hsVals S).toArray 108));generalize w4.alloc (.cells (hsVals S).toArray 108)=w5;intro F D
  cases b with
  | false =>
   have G:Hid (whyT t=(1,0)):=yK (by unfold whyT;rw[f.o rfl]);clear HY f;go_wp2_with fail;go_ret2;exact⟨1,0,rfl,F.o,λ _=>G.o.symm,λ h=>kV B.o h⟩
  | true =>
   obtain⟨s,hs⟩:=HY.o rfl;have HS:=yK hs;have A8:=yK (fits_any w5 M n t L _ _ D.o B.o);have H:=yK (dX B.o (aA B.o d.o) w5 M n D.o (B1.o.below F.o) λ W' hb' _=>cR (aA B.o d.o) W' M n hb');have A3:=yK (ci t);clear HY f hs;go_wp2_with fail;refine A8.o.mono ?_;rintro e w6 ⟨rfl,rfl⟩;obtain⟨ft,Y⟩:∃ ft,fitsT t=ft:=⟨_,rfl⟩;rw[Y];have U:=yK Y;clear Y A8
   cases ft with
   | false =>
    have G:Hid (whyT t=(2,0)):=yK (by unfold whyT;rw[HS.o];simp only[U.o];rfl);clear H;go_wp2_with fail;go_ret2;exact⟨2,0,rfl,F.o,λ _=>G.o.symm,λ h=>kV B.o h⟩
   | true =>
    have G:Hid (whyT t=if (tilingsT t).2.2≠0 then(0,(tilingsT t).2.2)else if (tilingsT t).1≠[]then(0,9)else(3,0)):=yK (by unfold whyT;rw[HS.o];simp only[U.o,if_true]);clear HS U;revert H G A3;generalize tilingsT t=R;obtain⟨Ts,nn,C⟩:=R;simp only;intro A3 H G;obtain⟨wt,B4⟩:∃ wt,whyT t=wt:=⟨_,rfl⟩;go_wp2_with fail;refine H.o.mono ?_;rintro e w7 ⟨v,rfl,A7,A4⟩;obtain⟨vp,vc,rfl⟩:=A7.slice;have a:=yK (F.o.tm A4);clear A7 A4 H B4;by_cases hcz:C=0
    case neg =>
     have hb:((C:Int) != 0)=true:=(by simpa using hcz);have HX:Hid (whyT t=(0,C)):=yK (by rw[G.o,Yz hcz]);clear G;go_wp2_with fail;go_ret2;exact⟨0,C,rfl,a.o,λ _=>HX.o.symm,λ h=>kV B.o h⟩
    subst hcz
    cases Ts with
    | nil =>
     have HX:Hid (whyT t=(3,0)):=yK (by rw[G.o];rfl);clear G;go_wp2_with fail;go_ret2;exact⟨3,0,rfl,a.o,λ _=>HX.o.symm,λ h=>kV B.o h⟩
    | cons T Ts =>
     have HX:Hid (whyT t=(0,9)):=yK (by rw[G.o];rfl);have B7:decide ((0:Int)<((T :: Ts).length:Int))=true:=yw (by simp);have B6:(0:Int)<((T :: Ts).length:Int):=(by simp);clear G;go_wp2_with fail;go_ret2;exact⟨0,9,rfl,a.o,λ _=>HX.o.symm,λ h=>kV B.o h⟩
theorem fU {α:Type} (R:REnc α) (hn:0<R.n) {T:TypeId} (hT:Tryz.prog.underlying T=some (.slice R.ty)) (bytes:Nat) (hi:∃ (i:TypeInfo) (z:Value),Tryz.prog.info? R.ty=some i/\i.zero=some z/\z.cells.size=R.n/\i.size=R.n/\i.bytes=bytes) (hby:0<bytes/\bytes<=40)
  (hnil:∀ (W:World) (b:Nat),(Builtin.append_ #[T,T] T #[.slice (some ⟨b,0,none⟩) 0 0,.slice none 0 0]).run Tryz.prog W=.ok (.slice (some ⟨b,0,none⟩) 0 0) W)
  {l:List α} (hl:l.length<=1000000) (W:World) (p:Option Addr) (c:Nat) (hv:R.Has W (.slice p l.length c) l) :
  ∃ vg W2,(Builtin.append_ #[T,T] T #[.slice (some ⟨W.heap.size,0,none⟩) 0 0,.slice p l.length c]).run Tryz.prog (W.alloc (.cells #[] R.ty))=.ok vg W2/\R.Own W2 W.heap.size vg l/\Bw W W2:=by
 obtain⟨i,z,D,J,H,I,G⟩:=hi;have A:(W.alloc (.cells #[] R.ty)).ownsRow W.heap.size R.ty R.n (.slice (some ⟨W.heap.size,0,none⟩) 0 0) 0 []:=⟨by simp,.inr ⟨W.heap.size,0,#[],rfl,ye _,yd W _,ye _,by decide,by simp,by simp⟩⟩;have B:Bw W (W.alloc (.cells #[] R.ty)):=(yf _ W).alloc (ye _) _;rcases hv with⟨C,K⟩|⟨a,cap,C,K,h3,h4⟩
 ·subst K;simp only[yC,yN,true_and]at C;obtain⟨rfl,rfl⟩:=C;exact⟨_,_,hnil _ _,A,B⟩
 ·simp only[yC,true_and]at C;obtain⟨rfl,rfl⟩:=C;have F:(0+l.length)*bytes<=140737488355328:=by
   rw[YM];have:l.length*bytes<=1000000*40:=Nat.mul_le_mul hl hby.2;omega
  obtain⟨S,N,U,O,M,_,_⟩:=run_append_own_at (P:=Tryz.prog) (W.alloc (.cells #[] R.ty)) W.heap.size T T R.ty i z R.n bytes hT D J I G H hn (.slice (some ⟨W.heap.size,0,none⟩) 0 0) 0 [] A a l.length c (R.cells l) (R.cells_length l) (bj hn (h4.below B)) (λ u hu=>by obtain⟨x,_,L⟩:=kX.1 hu;exact R.one x u L) (by simp only[maxLen];omega) F (by rw[yp];omega);exact⟨S,N,U,by simpa[REnc.Own]using O,B.grown M (by rw[yp];omega) λ b e=>by simp only[Value.ownBlock,yo]at e;omega⟩
theorem eo {T:TypeId} {z:Value} {n b:Nat} (h:(Tryz.prog.info? T).map (λ i=>(i.zero,i.size,i.bytes))=some (some z,n,b)) (hz:z.cells.size=n):∃ (i:TypeInfo) (z:Value),Tryz.prog.info? T=some i/\i.zero=some z/\z.cells.size=n/\i.size=n/\i.bytes=b:=by
 obtain⟨i,A,B,C,D⟩:=info_parts h;exact⟨i,z,A,B,hz,C,D⟩
theorem qr {l:List Ld} (hl:l.length<=1000000) (W:World) (p:Option Addr) (c:Nat) (hv:RL.Has W (.slice p l.length c) l) :
  ∃ vg W2,(Builtin.append_ #[31,31] 31 #[.slice (some ⟨W.heap.size,0,none⟩) 0 0,.slice p l.length c]).run Tryz.prog (W.alloc (.cells #[] 50))=.ok vg W2/\RL.Own W2 W.heap.size vg l/\Bw W W2 :=
 fU RL (by decide) underlying31 40 (eo infoLd rfl) (by decide) (λ W b=>by simp[Builtin.append_,go_sem]) hl W p c hv
theorem tq {l:List E} (hl:l.length<=1000000) (W:World) (p:Option Addr) (c:Nat) (hv:RE.Has W (.slice p l.length c) l) :
  ∃ vg W2,(Builtin.append_ #[32,32] 32 #[.slice (some ⟨W.heap.size,0,none⟩) 0 0,.slice p l.length c]).run Tryz.prog (W.alloc (.cells #[] 61))=.ok vg W2/\RE.Own W2 W.heap.size vg l/\Bw W W2 :=
 fU RE (by decide) underlying32 24 (eo infoE rfl) (by decide) (λ W b=>by simp[Builtin.append_,go_sem]) hl W p c hv
theorem ez {g:List Q} (hl:g.length*24<=140737488351232) (v:Value) (w:World) (hv:HasQ w v g) :
  Calls Tryz.prog 31 #[v] w λ e w'=>∃ u,e=.returned u/\OwnQ w' w.heap.size u g/\Bw w w':=by
 obtain⟨p,c,rfl⟩:=hv.slice;obtain⟨G,H,A,B,F⟩:=wk hl w p c hv;have C:=yK A;clear A hv;have D:=yK (YP B F);clear B F;go_enter func31,ntmps31;go_wp2_with (first|(at_builtin;refine cM rfl _ _ 22 rfl rfl rfl C.o ?_));go_ret;exact⟨G,rfl,D.o.1,D.o.2⟩
theorem jk {l:List Ld} (hl:l.length<=1000000) (v:Value) (w:World) (hv:RL.Has w v l) :
  Calls Tryz.prog 26 #[v] w λ e w'=>∃ u,e=.returned u/\RL.Own w' w.heap.size u l/\Bw w w':=by
 obtain⟨p,c,rfl⟩:=hv.slice;obtain⟨G,H,A,B,F⟩:=qr hl w p c hv;have C:=yK A;clear A hv;have D:=yK (YP B F);clear B F;go_enter func26,ntmps26;go_wp2_with (first|(at_builtin;refine cM rfl _ _ 31 rfl rfl rfl C.o ?_));go_ret;exact⟨G,rfl,D.o.1,D.o.2⟩
theorem DG {l:List E} (hl:l.length<=1000000) (v:Value) (w:World) (hv:RE.Has w v l) :
  Calls Tryz.prog 64 #[v] w λ e w'=>∃ u,e=.returned u/\RE.Own w' w.heap.size u l/\Bw w w':=by
 obtain⟨p,c,rfl⟩:=hv.slice;obtain⟨G,H,A,B,F⟩:=tq hl w p c hv;have C:=yK A;clear A hv;have D:=yK (YP B F);clear B F;go_enter func64,ntmps64;go_wp2_with (first|(at_builtin;refine cM rfl _ _ 32 rfl rfl rfl C.o ?_));go_ret;exact⟨G,rfl,D.o.1,D.o.2⟩
def zcw (x y:Nat):List Q:=(List.range 4).map λ (s:Nat)=>(⟨(x:Int),(y:Int),(s:Int)⟩:Q)
def zeg (W y:Nat):List Q:=(List.range W).flatMap λ x=>zcw x y
def cellsP (W y x s:Nat):List Q:=((List.range y).flatMap λ y=>zeg W y)++((List.range x).flatMap λ x=>zcw x y)++(List.range s).map λ (s:Nat)=>(⟨(x:Int),(y:Int),(s:Int)⟩:Q)
def qF (W H:Nat):List Q:=(List.range H).flatMap λ y=>zeg W y
theorem rB (W y x s:Nat):cellsP W y x (s+1)=cellsP W y x s++[⟨(x:Int),(y:Int),(s:Int)⟩]:=by
 unfold cellsP;rw[Yk (n:=s),Yl,<- kw];rfl
theorem Bo (W y x:Nat):cellsP W y x 4=cellsP W y (x+1) 0:=by
 unfold cellsP;rw[Yk (n:=x),List.flatMap_append];simp[zcw]
theorem wX (W y:Nat):cellsP W y W 0=cellsP W (y+1) 0 0:=by
 unfold cellsP;rw[Yk (n:=y),List.flatMap_append];simp[zeg]
theorem xD (W H:Nat):cellsP W H 0 0=qF W H:=by
 unfold cellsP qF;simp
theorem oH (x y:Nat):(zcw x y).length=4:=by simp[zcw]
theorem fu {α:Type} {f:Nat->List α} {c:Nat} (h:∀ i,(f i).length=c) (n:Nat):((List.range n).flatMap f).length=n*c:=by
 induction n with
 | zero=>simp
 | succ n ih=>rw[Yk,List.flatMap_append,yL,ih];simp[h,Nat.succ_mul]
theorem BR (W y x s:Nat):(cellsP W y x s).length=y*(W*4)+x*4+s:=by
 unfold cellsP;rw[yL,yL,fu (c:=W*4) (λ i=>by unfold zeg;exact fu (λ j=>oH j i) W),fu (λ j=>oH j y)];simp
theorem iu (W H:Nat) (hW:W<=8) (hH:H<=8) (w:World) :
  Calls Tryz.prog 63 #[.int .i64 W,.int .i64 H] w λ e w'=>∃ u,e=.returned u/\OwnQ w' w.heap.size u (qF W H)/\Bw w w':=by
 have J:Bw w (w.alloc (.cells #[] 56)):=(yf _ w).alloc (ye _) _;have D:OwnQ (w.alloc (.cells #[] 56)) w.heap.size (.slice (some ⟨w.heap.size,0,none⟩) 0 0) (cellsP W 0 0 0):=⟨rfl,.inr ⟨w.heap.size,0,#[],rfl,ye _,yd w _,ye _,by decide,rfl,rfl⟩⟩;have M:=yK (YP D J);clear J D;go_enter func63,ntmps63;go_wp2_with fail;revert M;generalize w.alloc (.cells #[] 56)=w1;intro M;go_loopw [5,6] (λ u z wr=>∃ y:Nat,y<=H/\z=.int .i64 y/\Hid (OwnQ wr w.heap.size u (cellsP W y 0 0)/\Bw w wr)) (λ _ z _=>H-(intOf z).toNat)
 case atStart=>exact⟨0,YB _,rfl,M⟩
 case round =>
  clear M;obtain⟨y,d,rfl,A⟩:=hrel;by_cases hlt:y<H
  case neg =>
   obtain rfl:y=H:=(by omega);go_wp2_with fail;go_ret;exact⟨_,rfl,by rw[<- xD];exact A.o.1,A.o.2⟩
  go_wp2_with fail;go_loopw [5,7] (λ u z wq=>∃ x:Nat,x<=W/\z=.int .i64 x/\Hid (OwnQ wq w.heap.size u (cellsP W y x 0)/\Bw w wq)) (λ _ z _=>W-(intOf z).toNat)
  case atStart=>exact⟨0,YB _,rfl,A⟩
  clear A;obtain⟨x,a,rfl,A⟩:=hrel;by_cases hlx:x<W
  case neg =>
   obtain rfl:x=W:=(by omega);go_wp2_with fail
   go_roundw
   case rel=>exact⟨y+1,by omega,by go_num,yK ⟨by rw[<- wX];exact A.o.1,A.o.2⟩⟩
   case measure=>simp only[intOf];omega
  go_wp2_with fail;go_loopw [5,8] (λ u z wq=>∃ s:Nat,s<=4/\z=.int .i64 s/\Hid (OwnQ wq w.heap.size u (cellsP W y x s)/\Bw w wq)) (λ _ z _=>4-(intOf z).toNat)
  case atStart=>exact⟨0,YB _,rfl,A⟩
  clear A;obtain⟨s,h,rfl,A⟩:=hrel;by_cases hls:s<4
  case neg =>
   obtain rfl:s=4:=(by omega);go_wp2_with fail
   go_roundw
   case rel=>exact⟨x+1,by omega,by go_num,yK ⟨by rw[<- Bo];exact A.o.1,A.o.2⟩⟩
   case measure=>simp only[intOf];omega
  obtain⟨Z,X,rfl⟩:=zf A.o.1;have T:(cellsP W y x s).length<=1000:=by
   rw[BR];have:y*(W*4)<=8*(8*4):=Nat.mul_le_mul (by omega) (by omega);omega
  have G:=rB W y x s;obtain⟨F,C⟩:∃ F,cellsP W y x s=F:=⟨_,rfl⟩;rw[C]at A T G ⊢;have S:=yK G;clear G C;have K:=yK A.o.2.size;obtain⟨Y,I,L,B,O⟩:=info_parts infoQ;have V:Hid (F.length+1<=maxLen):=yK (by simp only[maxLen];omega);have R:Hid ((F.length+1)*24<=140737488355328):=yK (by omega);have N:=yK (zD (cs:=qVals ⟨(x:Int),(y:Int),(s:Int)⟩) (yd wr (.cells (qVals ⟨(x:Int),(y:Int),(s:Int)⟩).toArray 56)));go_wp2_with (first
   | (refine di rfl _ rfl rfl underlying22 I L (by rw[B];decide) (by rw[B];decide) (cells:=(qVals ⟨(x:Int),(y:Int),(s:Int)⟩).toArray) (by rw[B];exact tz ⟨(x:Int),(y:Int),(s:Int)⟩) ?_)
   | (at_builtin;refine wpList_append_own_at (P:=Tryz.prog) _ rfl _ _ 22 rfl w.heap.size 56 Y _ 3 24 underlying22 I L B O rfl (by decide) (.slice Z F.length X) F.length (qCells F) rfl (qf A.o.1 ((yf _ wr).alloc (ye _) _)) ⟨wr.heap.size,0,none⟩ 1 1 (qVals ⟨(x:Int),(y:Int),(s:Int)⟩) rfl rfl N.o (aV _) V.o R.o (by rw[yp];have:=K.o;omega) ?_;intro f w7 hown' hgrow _ hat;obtain⟨c,g,rfl⟩:=zf hown'))
  have U:Bw w w7:=(A.o.2.alloc A.o.2.size _).grown hgrow (by rw[yp];have:=K.o;omega) λ b e=>(qg A.o.1 e).1;refine⟨⟨s+1,by omega,by go_num,yK ⟨?_,U⟩⟩,by simp only[intOf];omega⟩;rw[S.o];unfold OwnQ;rw[aw,yL];exact hown'
def zeu (t:Tk):Prop:=t.ground.length<=70/\t.kinds.length<=10/\t.counts.length<=10/\t.fixed.length<=20/\t.below.length<=410
def qa9 (t:Tk):Prop:=zeu t/\∀ s∈t.kinds,s.length<=20
theorem rn {t:Tk} (w:World) (vg vk vc vf vb:Value) (hg:HasQ w vg t.ground) (hk:HasQQ w vk t.kinds) (hc:RI.Has w vc t.counts) (hf:RL.Has w vf t.fixed) (hb:RE.Has w vb t.below) :
  Calls Tryz.prog 62 #[.agg #[vg,vk,vc,vf,vb]] w λ e w'=>∃ r:Bool,e=.returned (.bool r)/\(r=false↔qa9 t)/\Bw w w':=by
 obtain⟨J,H,rfl⟩:=hg.slice;obtain⟨M,K,rfl⟩:=hk.slice;obtain⟨O,L,rfl⟩:=hc.slice;obtain⟨D,G,rfl⟩:=hf.slice;obtain⟨I,P,rfl⟩:=hb.slice;clear hg hc hf hb;have B:=yd w (.cells (tA t J H M K O L D G I P) 34);have F:Bw w (w.alloc (.cells (tA t J H M K O L D G I P) 34)):=(yf _ w).alloc (ye _) _;have A:=hk.below F;go_enter func62,ntmps62;go_upto_region 1 with fail;revert B F A;change _->_->_->Code.wp _ _ _ _ (w.alloc (.cells (tA t J H M K O L D G I P) 34));generalize w.alloc (.cells (tA t J H M K O L D G I P) 34)=w1;intro B F A;have W:=yK F;clear F hk;have l:=yK A;clear A;have g:w1.cell? ⟨w.heap.size,0,none⟩=some (.slice J t.ground.length H):=by simp only[World.cell?,B];rfl
 have y:w1.cell? ⟨w.heap.size,1,none⟩=some (.slice M t.kinds.length K):=by simp only[World.cell?,B];rfl
 have v:w1.cell? ⟨w.heap.size,2,none⟩=some (.slice O t.counts.length L):=by simp only[World.cell?,B];rfl
 have n:w1.cell? ⟨w.heap.size,3,none⟩=some (.slice D t.fixed.length G):=by simp only[World.cell?,B];rfl
 have x:w1.cell? ⟨w.heap.size,4,none⟩=some (.slice I t.below.length P):=by simp only[World.cell?,B];rfl
 clear B;go_cut [31]from 4 to 31 (λ u wx=>∃ r:Bool,u=.bool r/\Hid (r=false↔zeu t)/\wx=w1)
 case first =>
  by_cases h1:t.ground.length<=70
  case neg =>
   have d1:decide ((70:Int)<(t.ground.length:Int))=true:=yw (by omega);have X:=yK h1;clear h1;go_wp2_with fail
   go_meet
   case rel=>exact⟨true,rfl,yK ⟨λ h=>(by cases h),λ h=>kV h.1 X.o⟩,rfl⟩
  have d1:decide ((70:Int)<(t.ground.length:Int))=false:=yv (by omega);have X:=yK h1;clear h1;by_cases h2:t.kinds.length<=10
  case neg =>
   have d2:decide ((10:Int)<(t.kinds.length:Int))=true:=yw (by omega);have U:=yK h2;clear h2;go_wp2_with fail
   go_meet
   case rel=>exact⟨true,rfl,yK ⟨λ h=>(by cases h),λ h=>kV h.2.1 U.o⟩,rfl⟩
  have d2:decide ((10:Int)<(t.kinds.length:Int))=false:=yv (by omega);have U:=yK h2;clear h2;by_cases h3:t.counts.length<=10
  case neg =>
   have c:decide ((10:Int)<(t.counts.length:Int))=true:=yw (by omega);have a:=yK h3;clear h3;go_wp2_with fail
   go_meet
   case rel=>exact⟨true,rfl,yK ⟨λ h=>(by cases h),λ h=>kV h.2.2.1 a.o⟩,rfl⟩
  have c:decide ((10:Int)<(t.counts.length:Int))=false:=yv (by omega);have a:=yK h3;clear h3;by_cases h4:t.fixed.length<=20
  case neg =>
   have f:decide ((20:Int)<(t.fixed.length:Int))=true:=yw (by omega);have V:=yK h4;clear h4;go_wp2_with fail
   go_meet
   case rel=>exact⟨true,rfl,yK ⟨λ h=>(by cases h),λ h=>kV h.2.2.2.1 V.o⟩,rfl⟩
  have f:decide ((20:Int)<(t.fixed.length:Int))=false:=yv (by omega);have V:=yK h4;clear h4;by_cases h5:t.below.length<=410
  case neg =>
   have p:decide ((410:Int)<(t.below.length:Int))=true:=yw (by omega);have Y:=yK h5;clear h5;go_wp2_with fail
   go_meet
   case rel=>exact⟨true,rfl,yK ⟨λ h=>(by cases h),λ h=>kV h.2.2.2.2 Y.o⟩,rfl⟩
  have p:decide ((410:Int)<(t.below.length:Int))=false:=yv (by omega);have Y:=yK h5;clear h5;go_wp2_with fail
  go_meet
  case rel=>exact⟨false,rfl,yK ⟨λ _=>⟨X.o,U.o,a.o,V.o,Y.o⟩,λ _=>rfl⟩,rfl⟩
 case rest =>
  obtain⟨r,rfl,T,rfl⟩:=hcut;clear g v n x
  cases r with
  | true =>
   have d:Hid (¬ zeu t):=yK λ h=>by have:=T.o.2 h;cases this
   clear T y;go_wp2_with fail;go_ret;exact⟨true,rfl,⟨λ h=>(by cases h),λ h=>kV h.1 d.o⟩,W.o⟩
  | false =>
   have HS:=yK (T.o.1 rfl);clear T;have q:t.kinds.length<=10:=HS.o.2.1;go_wp2_with fail;go_loopw [3] (λ z wq=>∃ i:Nat,i<=t.kinds.length/\z=.int .i64 i/\wq=wc/\Hid (∀ (j:Nat) (s:List Q),j<i->t.kinds[j]?=some s->s.length<=20)) (λ z _=>t.kinds.length-(intOf z).toNat)
   case atStart=>exact⟨0,YB _,rfl,rfl,yK λ j s N=>kV N (by omega)⟩
   obtain⟨i,hi,rfl,rfl,b⟩:=hrel;by_cases hlt:i<t.kinds.length
   case pos =>
    obtain⟨s,Z⟩:∃ s,t.kinds[i]?=some s:=⟨_,yb hlt⟩;obtain⟨ka,sv,rfl,k,R⟩:=l.o.at Z;obtain⟨sp,sc,rfl⟩:=R.slice;have S:=yK Z;clear Z R;by_cases h20:s.length<=20
    case pos =>
     have hd:decide ((20:Int)<(s.length:Int))=false:=yv (by omega);have C:=yK h20;clear h20;go_wp2_with fail
     go_roundw
     case rel=>exact⟨i+1,by omega,by go_num,trivial,yK λ j m N hm=>by
      rcases (by omega:j<i\/j=i)with h|rfl
      ·exact b.o j m h hm
      rw[S.o]at hm;cases hm;exact C.o⟩
     case measure=>simp[intOf];omega
    have hd:decide ((20:Int)<(s.length:Int))=true:=yw (by omega);have C:=yK h20;clear h20;go_wp2_with fail;go_ret;exact⟨true,rfl,⟨λ h=>(by cases h),λ h=>kV (h.2 s (yg S.o)) C.o⟩,W.o⟩
   obtain rfl:i=t.kinds.length:=(by omega);go_wp2_with fail;go_ret;exact⟨false,rfl,⟨λ _=>⟨HS.o,λ m hm=>by
    obtain⟨j,N⟩:=yV hm;exact b.o j m (yc.1 N).1 N⟩,λ _=>rfl⟩,W.o⟩
structure FamJ (F:Nat->(Nat->Value)->World->Prop) (dead reads:Nat->List Nat) (B:(Nat->Bool)->World->Prop) (L:Nat->Bool) (vals:Nat->Value) (W:World):Prop where
 base:B L W
 each:∀ i,L i=true->(∀ j∈reads i,L j=true)/\((∀ j∈dead i,L j=false)->F i vals W)
section
variable {F:Nat->(Nat->Value)->World->Prop} {dead reads:Nat->List Nat} {B:(Nat->Bool)->World->Prop} {L:Nat->Bool} {vals:Nat->Value} {W W':World}
theorem FamJ.start (h:B (λ _=>false) W) (v:Nat->Value):FamJ F dead reads B (λ _=>false) v W:=⟨h,λ i h=>by simp at h⟩
theorem FamJ.get (h:FamJ F dead reads B L vals W) (i:Nat) (hi:L i=true) (hd:∀ j∈dead i,L j=false):F i vals W:=(h.each i hi).2 hd
theorem FamJ.step (h:FamJ F dead reads B L vals W) (hR:∀ i v v' W,(∀ j,(j=i\/j∈reads i)->v j=v' j)->F i v W->F i v' W) {i:Nat} {v:Value} (hi:L i=false) (hr:∀ j∈reads i,L j=true) (hB:B (λ j=>L j||j==i) W')
  (hv:F i (λ j=>if j=i then v else vals j) W') (hk:∀ k,L k=true->(∀ j∈dead k,(L j||j==i)=false)->F k vals W->F k vals W'):FamJ F dead reads B (λ j=>L j||j==i) (λ j=>if j=i then v else vals j) W':=by
 refine⟨hB,λ k hkL=>?_⟩;by_cases e:k=i
 ·subst e;exact⟨λ j hj=>by simp[hr j hj],λ _=>hv⟩
 ·have A:L k=true:=by simpa[e]using hkL
  obtain⟨G,H⟩:=h.each k A;refine⟨λ j hj=>by simp[G j hj],λ hd=>?_⟩;have C:∀ j∈dead k,L j=false:=λ j hj=>by have:=hd j hj;simp at this;exact this.1
  refine hR k vals _ W' (λ j hj=>?_) (hk k A hd (H C));have D:j≠i:=by
   rcases hj with rfl|hj
   ·exact e
   intro I;rw[I]at hj;rw[G i hj]at hi;cases hi
  rw[Yy D]
theorem FamJ.still (h:FamJ F dead reads B L vals W) (hR:∀ i v v' W,(∀ j,(j=i\/j∈reads i)->v j=v' j)->F i v W->F i v' W) (hBm:∀ L L' W,(∀ j,L j=true->L' j=true)->B L W->B L' W) {i:Nat} {v:Value} (hi:L i=false) (hr:∀ j∈reads i,L j=true)
  (hv:F i (λ j=>if j=i then v else vals j) W):FamJ F dead reads B (λ j=>L j||j==i) (λ j=>if j=i then v else vals j) W :=
 h.step hR hi hr (hBm L _ W (λ j hj=>by simp[hj]) h.base) hv (λ _ _ _ h=>h)
end
section
variable {P:Program}
theorem xr {o:Oper} {T:TypeId} {b:Act} {W:World} {v:Value} {next:Value->World->Prop} (ho:o.op=.alloc T) (hz:(zeroValue T).run P W=.ok v W)
  (hn:next (.pointer (some ⟨W.heap.size,0,none⟩)) (W.alloc (.cells v.cells T))):loudUpon P next ((execOp b.eval o).run P W):=by
 refine qQ (v:=.pointer (some ⟨W.heap.size,0,none⟩)) (W':=W.alloc (.cells v.cells T)) ?_ hn;unfold execOp;simp[ho,Instr.alloc,yG,hz,newVar,newRow,Result.andThen]
theorem lN {o:Oper} {T t:TypeId} {p u:Operand} {b:Act} {W:World} {g:Nat} {old cells:Array Value} {next:Value->World->Prop} (ho:o.op=.store T p u) (hp:b.eval p=.pointer (some ⟨g,0,none⟩)) (hu:b.eval u=.agg cells)
  (hg:W.heap[g]?=some (.cells old t (0,0))) (hi:(P.info? T).map (·.size)=some cells.size) (hold:old.size=cells.size) (h1:cells.all (·.oneCell')=true)
  (hn:next undef (W.setRow g cells)):loudUpon P next ((execOp b.eval o).run P W):=by
 refine oK (W':=W.setRow g cells) ?_ hn;unfold execOp;simp only[ho,hp,hu,Instr.storeAt,Instr.sureAddr,yG,yH,yz,run_storeVar_row W g t T old cells hg hi hold h1]
end
theorem rH {α:Type} (R:REnc α) (hn:0<R.n) {T:TypeId} (hT:Tryz.prog.underlying T=some (.slice R.ty)) (bytes:Nat) (hi:∃ (i:TypeInfo) (z:Value),Tryz.prog.info? R.ty=some i/\i.zero=some z/\z.cells.size=R.n/\i.size=R.n/\i.bytes=bytes) (hby:0<bytes/\bytes<=40)
  (hnil:∀ (W:World) (p:Option Addr) (c:Nat),(Builtin.append_ #[T,T] T #[.slice p 0 c,.slice none 0 0]).run Tryz.prog W=.ok (.slice p 0 c) W)
  {l:List α} (hl:l.length<=1000000) {base:Nat} {W:World} (hbase:base<=W.heap.size) {v:Value} (hv0:R.Own W base v []) (p:Option Addr) (c:Nat) (hv:R.Has W (.slice p l.length c) l) :
  ∃ vg W2,(Builtin.append_ #[T,T] T #[v,.slice p l.length c]).run Tryz.prog W=.ok vg W2/\R.Own W2 base vg l/\W.grownBy W2 v.ownBlock:=by
 obtain⟨i,z,B,H,F,G,D⟩:=hi;rcases hv with⟨A,I⟩|⟨a,cap,A,I,h3,h4⟩
 ·subst I;simp only[yC,yN,true_and]at A;obtain⟨rfl,rfl⟩:=A;obtain⟨q,d,rfl⟩:=zf hv0;exact⟨_,_,hnil _ _ _,hv0,World.grownBy.refl _ _⟩
 ·simp only[yC,true_and]at A;obtain⟨rfl,rfl⟩:=A;have C:(0+l.length)*bytes<=140737488355328:=by
   rw[YM];have:l.length*bytes<=1000000*40:=Nat.mul_le_mul hl hby.2;omega
  obtain⟨N,L,O,M,K,_,_⟩:=run_append_own_at (P:=Tryz.prog) W base T T R.ty i z R.n bytes hT B H G D F hn v 0 [] hv0 a l.length c (R.cells l) (R.cells_length l) (bj hn h4) (λ u hu=>by obtain⟨x,_,J⟩:=kX.1 hu;exact R.one x u J) (by simp only[maxLen];omega) C hbase;exact⟨N,L,O,by simpa[REnc.Own]using M,K⟩
theorem Bk {l:List Int} (hl:l.length<=1000000) {base:Nat} {W:World} (hbase:base<=W.heap.size) {v:Value} (hv0:RI.Own W base v []) (p:Option Addr) (c:Nat) (hv:RI.Has W (.slice p l.length c) l) :
  ∃ vg W2,(Builtin.append_ #[30,30] 30 #[v,.slice p l.length c]).run Tryz.prog W=.ok vg W2/\RI.Own W2 base vg l/\W.grownBy W2 v.ownBlock :=
 rH RI (by decide) underlying30 8 (eo aH rfl) (by decide) (λ W p c=>by cases p <;> simp[Builtin.append_,go_sem]) hl hbase hv0 p c hv
theorem oE (W:World) (a:Addr) {i n c:Nat} (hi:i<n):(Instr.indexAt 96 (.slice (some a) n c) (.int .i64 i)).run Tryz.prog W=.ok (.pointer (some (a.add (i*16)))) W:=by
 have A:(0:Int)<=i/\(i:Int)<n:=by omega
 simp[go_sem,A]
theorem DH {W:World} {a:Addr} {Ss:List HS} (h:RS.At W a Ss) {k:Nat} {S:HS} (hS:Ss[k]?=some S):(Instr.loadAt 105 (.pointer (some ((a.add (k*16)).add 5)))).run Tryz.prog W=.ok (w3V S.joint) W:=by
 have:=bz (P:=Tryz.prog) W ((a.add (k*16)).add 5) 105 (zad S.joint) _ (λ j v hv=>by
  rw[qO];refine h.elem hS (5+j) v ?_
  match j,hv with
  | 0,hv=>exact hv
  | 1,hv=>exact hv
  | 2,hv=>exact hv
  | j+3,hv=>simp[zad]at hv) underlying105 rfl aZ
 simp only[Instr.loadAt,Instr.sureAddr,yG,yH,yz,this];rfl
theorem BelowBut.row {B b:Nat} {w W:World} (h:BelowBut B b w W) (cs:Array Value):BelowBut B b w (W.setRow b cs) :=
 ⟨h.os,h.tape,h.output,by simpa using h.size,λ k hk hn=>(setRow_other _ _ _ _ hn).trans (h.block k hk hn)⟩
def lyF (U:Value) (n vc k:Nat) (xa:Addr) (S:HS) (nl:List Ld) (ps:List Value) (ls:List (List Ld)) (B2 sz q:Nat):Nat->(Nat->Value)->World->Prop
 | 0,v,_=>v 0=U
 | 1,v,_=>v 1=.slice (some xa) n vc
 | 2,v,_=>v 2=.int .i64 k
 | 3,v,_=>v 3=.pointer (some (xa.add (k*16)))
 | 4,v,_=>v 4=.agg (hsVals S).toArray
 | 5,v,W=>RL.Own W sz (v 5) nl
 | 6,v,W=>∃ g,v 6=.slice (some ⟨g,0,none⟩) 1 1/\sz<=g/\W.heap[g]?=some (.cells ([v 5]:List Value).toArray 31 (0,0))
 | 7,v,W=>OwnLs RL 31 W B2 (v 7) (ps++[v 5]) (ls++[nl])
 | 8,v,_=>v 8=.slice (some xa) n vc
 | 9,v,_=>v 9=.int .i64 k
 | 10,v,_=>v 10=.pointer (some (xa.add (k*16)))
 | 11,v,_=>v 11=.pointer (some ((xa.add (k*16)).add 5))
 | 12,v,_=>v 12=w3V S.joint
 | 13,v,_=>v 13=v 7
 | 14,_,W=>W.heap[q]?=some (.cells (zad S.joint).toArray 105 (0,0))
 | _,_,_=>True
def lyR:Nat->List Nat
 | 6=>[5]
 | 7=>[5]
 | 13=>[7]
 | _=>[]
def lyD:Nat->List Nat
 | 5=>[7]
 | 6=>[7]
 | _=>[]
def lyB (w9:World) (U:Value) (ps:List Value) (ls:List (List Ld)) (old:Array Value) (B2 sz q:Nat) (L:Nat->Bool) (W:World):Prop :=
 BelowBut B2 q w9 W/\sz<=W.heap.size/\(L 7=false->OwnLs RL 31 W B2 U ps ls)/\(L 14=false->W.heap[q]?=some (.cells old 105 (0,0)))
theorem mo {w9:World} {U:Value} {ps:List Value} {ls:List (List Ld)} {old:Array Value} {B2 sz q:Nat}:∀ L L' W,(∀ j,L j=true->L' j=true)->lyB w9 U ps ls old B2 sz q L W->lyB w9 U ps ls old B2 sz q L' W:=by
 rintro L L' W h ⟨h1,h2,h3,h4⟩;refine⟨h1,h2,λ e=>h3 ?_,λ e=>h4 ?_⟩
 ·cases hl:L 7 with
  | false=>rfl
  | true=>rw[h 7 hl]at e;cases e
 cases hl:L 14 with
 | false=>rfl
 | true=>rw[h 14 hl]at e;cases e
theorem jr {w9:World} {U:Value} {ps:List Value} {ls:List (List Ld)} {old:Array Value} {B2 sz q:Nat} {L L':Nat->Bool} {W W':World} (h:lyB w9 U ps ls old B2 sz q L W) (hB2:B2<=sz) (hL:∀ j,L j=true->L' j=true) (e:Bw W W'):lyB w9 U ps ls old B2 sz q L' W':=by
 obtain⟨D,A,C,B⟩:=mo L L' W hL h;refine⟨D.trans (.of_below (e.mono (yJ hB2 A))),yJ A e.size,λ hl=>(C hl).below e,λ hl=>(e.block _ (ya.1 (B hl)).1).trans (B hl)⟩
section
variable {U:Value} {n vc k:Nat} {xa:Addr} {S:HS} {nl:List Ld} {ps:List Value} {ls:List (List Ld)} {B2 sz q:Nat} {v:Nat->Value} {W W':World}
theorem Cf:∀ i v v' W,(∀ j,(j=i\/j∈lyR i)->v j=v' j)->lyF U n vc k xa S nl ps ls B2 sz q i v W->lyF U n vc k xa S nl ps ls B2 sz q i v' W:=by
 intro i v v' W h hF;have A:=h i (.inl rfl)
 match i,h,A,hF with
 | 0,_,A,hF|1,_,A,hF|2,_,A,hF|3,_,A,hF|4,_,A,hF|5,_,A,hF|8,_,A,hF|9,_,A,hF|10,_,A,hF|11,_,A,hF|12,_,A,hF =>
  simp only[lyF]at hF ⊢;rw[<- A];exact hF
 | 6,h,A,hF|7,h,A,hF =>
  simp only[lyF]at hF ⊢;rw[<- A,<- h 5 (.inr (by simp[lyR]))];exact hF
 | 13,h,A,hF =>
  simp only[lyF]at hF ⊢;rw[<- A,<- h 7 (.inr (by simp[lyR]))];exact hF
 | 14,_,_,hF=>exact hF
 | n+15,_,_,_=>trivial
theorem jR (hB:Bw W W'):∀ {i},lyF U n vc k xa S nl ps ls B2 sz q i v W->lyF U n vc k xa S nl ps ls B2 sz q i v W':=by
 intro i hF
 match i,hF with
 | 0,hF|1,hF|2,hF|3,hF|4,hF|8,hF|9,hF|10,hF|11,hF|12,hF|13,hF=>exact hF
 | 5,hF=>exact qf hF hB
 | 6,hF =>
  obtain⟨g,B,C,A⟩:=hF;exact⟨g,B,C,(hB.block _ (ya.1 A).1).trans A⟩
 | 7,hF=>exact OwnLs.below hF hB
 | 14,hF=>exact(hB.block _ (ya.1 hF).1).trans hF
 | n+15,_=>trivial
theorem yy:∀ {i},i≠5->i≠6->i≠7->i≠14->lyF U n vc k xa S nl ps ls B2 sz q i v W->lyF U n vc k xa S nl ps ls B2 sz q i v W':=by
 intro i h5 h6 h7 h14 hF
 match i,h5,h6,h7,h14,hF with
 | 0,_,_,_,_,hF|1,_,_,_,_,hF|2,_,_,_,_,hF|3,_,_,_,_,hF|4,_,_,_,_,hF|8,_,_,_,_,hF|9,_,_,_,_,hF|10,_,_,_,_,hF|11,_,_,_,_,hF|12,_,_,_,_,hF|13,_,_,_,_,hF=>exact hF
 | 5,h,_,_,_,_=>exact kV rfl h
 | 6,_,h,_,_,_=>exact kV rfl h
 | 7,_,_,h,_,_=>exact kV rfl h
 | 14,_,_,_,h,_=>exact kV rfl h
 | n+15,_,_,_,_,_=>trivial
theorem AG (hq:q<B2) (hB2:B2<=sz) (cs:Array Value):∀ {i},i≠14->lyF U n vc k xa S nl ps ls B2 sz q i v W->lyF U n vc k xa S nl ps ls B2 sz q i v (W.setRow q cs):=by
 intro i h14 hF
 match i,h14,hF with
 | 0,_,hF|1,_,hF|2,_,hF|3,_,hF|4,_,hF|8,_,hF|9,_,hF|10,_,hF|11,_,hF|12,_,hF|13,_,hF=>exact hF
 | 5,_,hF=>exact zk hF λ k hk=>setRow_other _ _ _ _ (by have:=(qg hF hk).1;omega)
 | 6,_,hF =>
  obtain⟨g,A,B,C⟩:=hF;exact⟨g,A,B,(setRow_other _ _ _ _ (by omega)).trans C⟩
 | 7,_,hF=>exact OwnLs.move hF λ k hk _=>setRow_other _ _ _ _ (by omega)
 | 14,h,_=>exact kV rfl h
 | n+15,_,_=>trivial
end
