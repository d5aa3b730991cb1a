/- Beside Layers: the facts of the region that takes a layer into the plan. -/
import Derived.Test.YtiinlplgloaanaaGreatDoorZzLayerNever34
import Derived.Test.YtiinlplgloaanaaGreatDoorZzLayerNever43
set_option linter.all false
set_option maxRecDepth 100000
set_option maxHeartbeats 8000000
namespace Go.Proofs.YtiinlplgloaanaaGreatDoor
open Go.Proofs.Tryz Go.RowKit
attribute [local go_sem] Oper.semAt_some
theorem qfs (a b:Ld) (W:World) (n:Nat):(Op.equalIn (n+1+1+1) 50 (.agg (ldVals a).toArray) (.agg (ldVals b).toArray)).run Tryz.prog W=.ok (decide (a=b)) W:=by
 obtain⟨k,m,t,x,y⟩:=a;obtain⟨k',m',t',x',y'⟩:=b;rw[run_equalIn_agg W (n+1+1) 50 _ _ (by kernel_rfl) (by kernel_rfl)];by_cases h:k=k' <;> by_cases h0:m=m' <;> by_cases h1:t=t' <;> by_cases h2:x=x' <;> by_cases h3:y=y' <;> simp[go_sem,ldVals,h,h0,h1,h2,h3]
theorem qhU (x y:W3) (W:World) (n:Nat):(Op.equalIn (n+1+1) 105 (.agg #[.int .u64 x.1,.int .u64 x.2.1,.int .u64 x.2.2]) (.agg #[.int .u64 y.1,.int .u64 y.2.1,.int .u64 y.2.2])).run Tryz.prog W=.ok (decide (x=y)) W:=by
 obtain⟨x0,x1,x2⟩:=x;obtain⟨y0,y1,y2⟩:=y;have e:decide (((x0,x1,x2):W3)=(y0,y1,y2))=(((x0:Int)==(y0:Int))&&(((x1:Int)==(y1:Int))&&((x2:Int)==(y2:Int)))):=by
  rw[Bool.eq_iff_iff,yS,Yr,Yr,beq_iff_eq,beq_iff_eq,beq_iff_eq,Prod.mk.injEq,Prod.mk.injEq];omega
 obtain⟨iu,hiu⟩:∃ i,Tryz.prog.info? 103=some i:=Option.isSome_iff_exists.1 (by kernel_rfl);rw[e,run_equalIn_array W (n+1) _ _ underlying105 hiu];simp only;have hc:Tryz.prog.cellsOf 103=1:=by kernel_rfl
 rw[hc,show List.range 3=[0,1,2]from rfl];generalize (x0:Int)=a0;generalize (x1:Int)=a1;generalize (x2:Int)=a2;generalize (y0:Int)=c0;generalize (y1:Int)=c1;generalize (y2:Int)=c2;have hx0:=zae #[.int .u64 a0,.int .u64 a1,.int .u64 a2] (0*1) (.int .u64 a0) rfl;have hx1:=zae #[.int .u64 a0,.int .u64 a1,.int .u64 a2] (1*1) (.int .u64 a1) rfl;have hx2:=zae #[.int .u64 a0,.int .u64 a1,.int .u64 a2] (2*1) (.int .u64 a2) rfl;have hy0:=zae #[.int .u64 c0,.int .u64 c1,.int .u64 c2] (0*1) (.int .u64 c0) rfl;have hy1:=zae #[.int .u64 c0,.int .u64 c1,.int .u64 c2] (1*1) (.int .u64 c1) rfl;have hy2:=zae #[.int .u64 c0,.int .u64 c1,.int .u64 c2] (2*1) (.int .u64 c2) rfl;have heq:∀ a c:Int,(Op.equalIn (n+1) 103 (.int .u64 a) (.int .u64 c)).run Tryz.prog W=.ok (a==c) W:=λ a c=>run_equalIn_int (P:=Tryz.prog) W n 103 .u64 .u64 a c underlying103;simp only[Op.eqItems,yG,hx0,hy0,heq,yz]
 cases a0==c0 <;> cases h1:a1==c1 <;> cases h2:a2==c2 <;> simp only[Bool.not_true,Bool.not_false,if_true,Yo,if_false,yH,yz,yG,hx1,hx2,hy1,hy2,heq,Bool.and_true,Bool.and_false,Bool.true_and,Bool.false_and,h1,h2]
theorem qd8:∃ f0 f1 f2:Field,Tryz.prog.underlying 152=some (.struct #[f0,f1,f2])∧f0.type=50∧f1.type=103∧f2.type=105∧f0.offset=0∧f1.offset=5∧f2.offset=6∧f0.name≠ "_"∧f1.name≠ "_"∧f2.name≠ "_":=⟨_,_,_,underlying152,rfl,rfl,rfl,rfl,rfl,rfl,by decide,by decide,by decide⟩
theorem zf6 (a b:HP) (W:World):(Op.equalIn 10000 152 (.agg (hpVals a).toArray) (.agg (hpVals b).toArray)).run Tryz.prog W=.ok (decide (a.ld=b.ld∧a.set=b.set∧a.bord=b.bord)) W:=by
 rw[run_equalIn_agg W 9999 152 _ _ (by kernel_rfl) (by kernel_rfl)];obtain⟨f0,f1,f2,hu,t0,t1,t2,o0,o1,o2,n0,n1,n2⟩:=qd8;have hf:(Tryz.prog.fieldsOf 152).toList=[f0,f1,f2]:=by unfold Program.fieldsOf;rw[hu]
 rw[hf];have h0:=qfs a.ld b.ld W 9996;have h2:=qhU a.bord b.bord W 9997;have h1:(Op.equalIn 9999 103 (.int .u64 a.set) (.int .u64 b.set)).run Tryz.prog W=.ok ((a.set:Int)==(b.set:Int)) W:=run_equalIn_int (P:=Tryz.prog) W 9998 103 .u64 .u64 _ _ underlying103;have p0:∀ c:HP,(part 50 (hpVals c).toArray 0).run Tryz.prog W=.ok (.agg (ldVals c.ld).toArray) W:=λ c=>by
  obtain⟨⟨k,m,t,x,y⟩,st,q0,q1,q2⟩:=c;simp[part,go_sem,hpVals,ldVals]
 have p1:∀ c:HP,(part 103 (hpVals c).toArray 5).run Tryz.prog W=.ok (.int .u64 c.set) W:=λ c=>by
  obtain⟨⟨k,m,t,x,y⟩,st,q0,q1,q2⟩:=c;exact zae _ 5 _ rfl W
 have p2:∀ c:HP,(part 105 (hpVals c).toArray 6).run Tryz.prog W=.ok (.agg #[.int .u64 c.bord.1,.int .u64 c.bord.2.1,.int .u64 c.bord.2.2]) W:=λ c=>by
  obtain⟨⟨k,m,t,x,y⟩,st,q0,q1,q2⟩:=c;simp[part,go_sem,hpVals]
 simp only[Op.eqFields,t0,t1,t2,o0,o1,o2,n0,n1,n2,ne_eq,not_false_eq_true,if_true,yG,p0,p1,p2,h0,h1,h2,yz];by_cases k0:a.ld=b.ld
 case neg =>
  rw[yv k0,yv (λ h=>k0 h.1)];simp only[Bool.not_false,if_true,yH]
 rw[yw k0];simp only[Bool.not_true,Yo,if_false,yG,p1,h1,yz];by_cases k1:a.set=b.set
 case neg =>
  have e1:((a.set:Int)==(b.set:Int))=false:=by simp only[Yt,ne_eq];omega
  rw[e1,yv (λ h=>k1 h.2.1)];simp only[Bool.not_false,if_true,yH]
 have e1:((a.set:Int)==(b.set:Int))=true:=by rw[k1];exact beq_self_eq_true _
 rw[e1];simp only[Bool.not_true,Yo,if_false,yG,p2,h2,yz];by_cases k2:a.bord=b.bord
 case neg =>
  rw[yv k2,yv (λ h=>k2 h.2.2)];simp only[Bool.not_false,if_true,yH]
 rw[yw k2,yw ⟨k0,k1,k2⟩];simp only[Bool.not_true,Yo,if_false,yH]
theorem qcn {P:Program} {C:World→Prop} {o:Oper} {a:Act} {K:Act→Prop} (ty ty2:TypeId) (x y:Operand) (ho:o.op=.binOp .neq ty x y ty2) {xs ys:Array Value} (hx:a.eval x=.agg xs) (hy:a.eval y=.agg ys) (hm:P.eqGuardType P.depth ty=false) {b:Bool}
  (he:∀ w,C w→(Op.equalIn 10000 ty (.agg xs) (.agg ys)).run P w=.ok b w) (hk:K (a.put o.dst (.bool (!b)))):o.quiet P a C K:=by
 refine⟨.bool (!b),λ w hc=>?_,hk⟩;unfold Oper.quietAt execOp;simp only[ho,hx,hy,yG,run_eqGuard_agg (hm:=hm),yz,run_neq_struct,he w hc,yH];exact⟨rfl,rfl⟩
theorem HP.ext3 {a b:HP} (h:a.ld=b.ld∧a.set=b.set∧a.bord=b.bord):a=b:=by
 obtain⟨a1,a2,a3⟩:=a;obtain⟨b1,b2,b3⟩:=b;obtain⟨h1,h2,h3⟩:=h;simp only at h1 h2 h3;rw[h1,h2,h3]
theorem zfh (a b:List HP) (va vb:Value) (w:World) (ha:RP.Has w va a) (hb:RP.Has w vb b) (hl:a.length≤1000000) (hl2:b.length≤1000000) :
  Calls Tryz.prog 102 #[va,vb] w λ e w'=>∃ r:Bool,e=.returned (.bool r)∧(r=true↔a=b)∧Below w.heap.size w w':=by
 obtain⟨pa,ca,rfl⟩:=ha.slice;obtain⟨pb,cb,rfl⟩:=hb.slice;have HA:=yK ha;clear ha;have HB:=yK hb;clear hb;by_cases hlen:a.length=b.length
 case neg =>
  have hd:((a.length:Int)==(b.length:Int))=false:=by simp only[Yt,ne_eq];omega
  have HN:=yK hlen;clear hlen;go_enter func102,ntmps102;go_wp2_with fail;go_ret;exact⟨false,rfl,⟨λ h=>(by cases h),λ h=>absurd (YB List.length h) HN.out⟩,yf _ _⟩
 case pos =>
  have hd:((a.length:Int)==(b.length:Int))=true:=by rw[hlen];exact beq_self_eq_true _
  have HN:=yK hlen;clear hlen;go_enter func102,ntmps102;go_wp2_with fail;clear hd;go_loopw [13] (λ z wr=>∃ i:Nat,i≤a.length∧z=.int .i64 i∧Hid (Below w.heap.size w wr∧∀ j,j<i→a[j]?=b[j]?)) (λ z _=>a.length-(intOf z).toNat)
  case atStart=>exact⟨0,by omega,rfl,yK ⟨yf _ _,λ j hj=>absurd hj (by omega)⟩⟩
  obtain⟨i,hi,rfl,HR⟩:=hrel;by_cases hlt:i<a.length
  case neg =>
   obtain rfl:i=a.length:=(by omega);go_wp2_with fail;go_ret;refine⟨true,rfl,⟨λ _=>List.ext_getElem? λ j=>?_,λ _=>rfl⟩,HR.out.1⟩;rcases Nat.lt_or_ge j a.length with h|h
   ·exact HR.out.2 j h
   rw[List.getElem?_eq_none h,List.getElem?_eq_none (by rw[← HN.out];exact h)]
  obtain⟨p,hp⟩:∃ p,a[i]?=some p:=⟨_,yb hlt⟩;obtain⟨q,hq⟩:∃ q,b[i]?=some q:=⟨_,yb (by rw[← HN.out];exact hlt)⟩;obtain⟨xa,rfl,_⟩:=(HA.out.below HR.out.1).at_ (by rintro e;rw[e]at hp;simp at hp);obtain⟨xb,rfl,_⟩:=(HB.out.below HR.out.1).at_ (by rintro e;rw[e]at hq;simp at hq);have d1:∀ d:SubW wr,(Instr.loadAt 152 (.pointer (some (xa.add (i*9))))).run Tryz.prog d.1=.ok (.agg (hpVals p).toArray) d.1:=λ d=>by
   obtain⟨xa',e,hat⟩:=(HA.out.below (HR.out.1.trans (d.2.mono HR.out.1.size))).at_ (by rintro e;rw[e]at hp;simp at hp)
   cases e
   exact qj (P:=Tryz.prog) (R:=RP) underlying152 rfl sizeP hat hp
  have d2:∀ d:SubW wr,(Instr.loadAt 152 (.pointer (some (xb.add (i*9))))).run Tryz.prog d.1=.ok (.agg (hpVals q).toArray) d.1:=λ d=>by
   obtain⟨xb',e,hat⟩:=(HB.out.below (HR.out.1.trans (d.2.mono HR.out.1.size))).at_ (by rintro e;rw[e]at hq;simp at hq)
   cases e
   exact qj (P:=Tryz.prog) (R:=RP) underlying152 rfl sizeP hat hq
  have heq:=zf6 p q;have HPQ:=yK (And.intro hp hq);clear hp hq;have hib:(i:Int)<(b.length:Int):=by have:=HN.out;omega
  by_cases hpq:p.ld=q.ld∧p.set=q.set∧p.bord=q.bord
  case neg =>
   have heq2:∀ d:SubW wr,(Op.equalIn 10000 152 (.agg (hpVals p).toArray) (.agg (hpVals q).toArray)).run Tryz.prog d.1=.ok false d.1:=λ d=>by rw[heq d.1,yv hpq]
   have HNE:=yK hpq;clear hpq heq;go_upto_region 6 with fail;refine qh 9 (by kernel_rfl) (by kernel_rfl) ?_;simp only[yh,yj,yi,yl]
   repeat (first|((first|(go_big_quiet_want;refine qC 152 _ rfl rfl (by rintro w ⟨d,rfl⟩;exact d1 d) ?_;simp only[Act.put,yr,yF,yE];go_big_quiet_on)|(go_big_quiet_want;refine qC 152 _ rfl rfl (by rintro w ⟨d,rfl⟩;exact d2 d) ?_;simp only[Act.put,yr,yF,yE];go_big_quiet_on)|(go_big_quiet_want;refine qcn 152 _ _ _ rfl rfl rfl (by kernel_rfl) (by rintro w ⟨d,rfl⟩;exact heq2 d) ?_;simp only[Act.put,yr,yF,yE,Bool.not_true,Bool.not_false];go_big_quiet_on)))|go_big_quiet_step (fail))
   refine wpQuiet_nil ?_;intro dq;have HBW:=yK (HR.out.1.trans (dq.2.mono HR.out.1.size));clear d1 d2 heq2 HR;revert HBW;generalize dq.1=wu;intro HBW;go_wp2_with fail;go_ret;refine⟨false,rfl,⟨λ h=>(by cases h),λ h=>?_⟩,HBW.out⟩;have h1:=HPQ.out.1;rw[h,HPQ.out.2]at h1
   cases h1
   exact absurd ⟨rfl,rfl,rfl⟩ HNE.out
  have heq2:∀ d:SubW wr,(Op.equalIn 10000 152 (.agg (hpVals p).toArray) (.agg (hpVals q).toArray)).run Tryz.prog d.1=.ok true d.1:=λ d=>by rw[heq d.1,yw hpq]
  have HEQ:=yK (HP.ext3 hpq);clear hpq heq;go_upto_region 6 with fail;refine qh 9 (by kernel_rfl) (by kernel_rfl) ?_;simp only[yh,yj,yi,yl]
  repeat (first|((first|(go_big_quiet_want;refine qC 152 _ rfl rfl (by rintro w ⟨d,rfl⟩;exact d1 d) ?_;simp only[Act.put,yr,yF,yE];go_big_quiet_on)|(go_big_quiet_want;refine qC 152 _ rfl rfl (by rintro w ⟨d,rfl⟩;exact d2 d) ?_;simp only[Act.put,yr,yF,yE];go_big_quiet_on)|(go_big_quiet_want;refine qcn 152 _ _ _ rfl rfl rfl (by kernel_rfl) (by rintro w ⟨d,rfl⟩;exact heq2 d) ?_;simp only[Act.put,yr,yF,yE,Bool.not_true,Bool.not_false];go_big_quiet_on)))|go_big_quiet_step (fail))
  refine wpQuiet_nil ?_;intro dq;have HN2:Hid (Below w.heap.size w dq.1∧∀ j,j<i+1→a[j]?=b[j]?):=yK ⟨HR.out.1.trans (dq.2.mono HR.out.1.size),λ j hj=>by
   rcases (by omega:j<i∨j=i)with h|rfl
   ·exact HR.out.2 j h
   rw[HPQ.out.1,HPQ.out.2,HEQ.out]⟩
  clear d1 d2 heq2 HR;revert HN2;generalize dq.1=wu;intro HN2;go_wp2_with fail
  go_roundw
  case rel=>exact⟨i+1,by omega,by go_num,HN2⟩
  case measure=>simp[intOf];omega
theorem qfK (S:HS) (a last:List HP) (vl:Value) (lb:Nat) (w:World) (ha:RP.Has w S.laid a) (hb:RP.Has w vl last) (hbox:w.heap[lb]?=some (.cells #[vl] 102 (0,0))) (hl:a.length≤1000000) (hl2:last.length≤1000000) :
  Calls Tryz.prog 101 #[.agg (hsVals S).toArray,.pointer (some ⟨lb,0,none⟩)] w λ e w'=>∃ r:Bool,e=.returned (.bool r)∧(r=true↔a=last)∧Below w.heap.size w w':=by
 have hS:=yd w (.cells (hsVals S).toArray 108);have hB:Below w.heap.size w (w.alloc (.cells (hsVals S).toArray 108)):=(yf _ w).alloc (ye _) _;have hb1:=heapO (.cells (hsVals S).toArray 108) hbox;have ha1:=ha.below hB;have hl1:=hb.below hB;clear ha hb hbox;obtain⟨sp,sn,sc,sst,sb,sj,sm⟩:=S;obtain⟨lp,ln,rfl⟩:=hl1.slice;go_enter func101,ntmps101;go_upto_region 1 with fail;revert hS hB hb1 ha1 hl1;change _→_→_→_→_→Code.wp _ _ _ _ (w.alloc (.cells (hsVals ⟨sp,sn,sc,sst,sb,sj,sm⟩).toArray 108));generalize w.alloc (.cells (hsVals ⟨sp,sn,sc,sst,sb,sj,sm⟩).toArray 108)=w1;intro hS hB ha1 hb1 hl1;have HE:=yK (zfh a last _ _ w1 ha1 hl1 hl hl2);have HB:=yK hB;clear hB ha1 hl1;have c0:w1.cell? ⟨w.heap.size,0,none⟩=some (.slice sp sn sc):=by simp only[World.cell?,hS];rfl
 have c1:w1.cell? ⟨lb,0,none⟩=some (.slice lp last.length ln):=by simp only[World.cell?,hb1];rfl
 clear hS hb1;go_wp2_with fail;refine HE.out.mono ?_;rintro e w2 ⟨r,rfl,hr,hb2⟩;have HR:=yK hr;clear hr;have HB2:=yK (HB.out.trans (hb2.mono HB.out.size));clear hb2 HE c0 c1;go_wp2_with fail;go_ret;exact⟨r,rfl,HR.out,HB2.out⟩
theorem qg8 (Ss:List HS) (As:List (List HP)) (v vl:Value) (last:List HP) (lb:Nat) (w:World) (h:RS.Has w v Ss) (hlen:Ss.length=As.length) (hsm:Ss.length≤20000) (hent:∀ (i:Nat) (S:HS) (a:List HP),Ss[i]?=some S→As[i]?=some a→RP.Has w S.laid a∧a.length≤64)
  (hb:RP.Has w vl last) (hl2:last.length≤1000000) (hbox:w.heap[lb]?=some (.cells #[vl] 102 (0,0))) :
  Calls Tryz.prog 100 #[v,.func (.func 101) #[] #[.pointer (some ⟨lb,0,none⟩)]] w λ e w'=>∃ r:Int,e=.returned (.int .i64 r)∧Below w.heap.size w w' ∧
   ((∃ i:Nat,r=i∧As[i]?=some last∧∀ j:Nat,j<i→As[j]?≠some last)∨(r=-1∧∀ j:Nat,As[j]?≠some last)):=by
 obtain⟨vp,vc,rfl⟩:=h.slice;have HPX:=yK h;clear h;have HLE:=yK hlen;clear hlen;have HEN:=yK hent;clear hent;have HLB:=yK hb;clear hb;have HBX:=yK hbox;clear hbox;go_enter func100,ntmps100;go_wp2_with fail;go_loopw [8] (λ z wr=>∃ k:Nat,k≤Ss.length∧z=.int .i64 k∧Hid (Below w.heap.size w wr∧∀ j:Nat,j<k→As[j]?≠some last)) (λ z _=>Ss.length-(intOf z).toNat)
 case atStart=>exact⟨0,YC _,rfl,yK ⟨yf _ _,λ j hj=>absurd hj (by omega)⟩⟩
 case round =>
  obtain⟨k,hk,rfl,HR⟩:=hrel;by_cases hlt:k<Ss.length
  case pos =>
   obtain⟨S,hS⟩:∃ S,Ss[k]?=some S:=⟨_,yb hlt⟩;obtain⟨a,ha⟩:∃ a,As[k]?=some a:=⟨_,yb (by rw[← HLE.out];exact hlt)⟩;obtain⟨xa,rfl,hat⟩:=(HPX.out.below HR.out.1).at_ (by rintro e;rw[e]at hlt;simp at hlt);have hld:(Instr.loadAt 108 (.pointer (some (xa.add (k*16))))).run Tryz.prog wr=.ok (.agg (hsVals S).toArray) wr:=qj (P:=Tryz.prog) (R:=RS) underlying108 rfl sizeS hat hS;obtain⟨hra,hal⟩:=HEN.out k S a hS ha;have HF:=yK (qfK S a last vl lb wr (hra.below HR.out.1) (HLB.out.below HR.out.1) ((HR.out.1.block _ (ya.1 HBX.out).1).trans HBX.out) (by omega) hl2);have HAK:=yK ha;clear ha hat hra hal hS;go_wp2_with (refine zl rfl 108 _ rfl rfl hld ?_);refine HF.out.mono ?_;rintro e w1 ⟨r,rfl,hr,hb1⟩;have HB1:=yK (HR.out.1.trans (hb1.mono HR.out.1.size));clear hb1 HF hld;have HRR:=yK hr;clear hr
   cases r with
   | true =>
    have HEQ:Hid (a=last):=yK (HRR.out.1 rfl);clear HRR;go_wp2_with fail;go_ret;exact⟨(k:Int),rfl,HB1.out,.inl ⟨k,rfl,by rw[HAK.out,HEQ.out],HR.out.2⟩⟩
   | false =>
    have HNE:Hid (a≠last):=yK λ h=>absurd (HRR.out.2 h) (by decide);clear HRR;go_wp2_with fail
    go_roundw
    case rel =>
     refine⟨k+1,by omega,by go_num,yK ⟨HB1.out,λ j hj=>?_⟩⟩;rcases (by omega:j<k∨j=k)with h|rfl
     ·exact HR.out.2 j h
     rw[HAK.out];exact λ h=>HNE.out (Option.some.inj h)
    case measure=>simp only[intOf];omega
  obtain rfl:k=Ss.length:=by omega
  go_wp2_with fail;go_ret;refine⟨-1,rfl,HR.out.1,.inr ⟨rfl,λ j h=>?_⟩⟩;exact HR.out.2 j (by rw[HLE.out];exact (yc.1 h).1) h
theorem zht {t:Tk} {L:List E} {x y:List Pc} (hx:∀ p∈x,p∈(piecesT t).flatten) (hy:∀ p∈y,p∈(piecesT t).flatten) (h:x.map (hpT t.ground L)=y.map (hpT t.ground L)):x=y:=by
 refine qhM hx hy ?_;have:=YB (List.map (·.ld)) h;rw[List.map_map,List.map_map]at this;exact this
theorem zcL {t:Tk} {L:List E} {Ts:List (List Pc)} {x:List Pc} (hm:∀ T∈Ts,∀ p∈T,p∈(piecesT t).flatten) (hx:∀ p∈x,p∈(piecesT t).flatten) (j:Nat):(Ts.map λ T=>T.map (hpT t.ground L))[j]?=some (x.map (hpT t.ground L))↔Ts[j]?=some x:=by
 rw[yQ];constructor
 ·intro h
  cases hT:Ts[j]? with
  | none=>rw[hT]at h;cases h
  | some T =>
   rw[hT]at h;simp only[Option.map_some,yo]at h;rw[zht (hm T (yg hT)) hx h]
 intro h;rw[h];rfl
theorem zfS {Ts:List (List Pc)} {x:List Pc} {i:Nat} (h:Ts[i]?=some x) (hn:∀ j:Nat,j<i→Ts[j]?≠some x):Ts.findIdx? (λ y=>decide (y=x))=some i:=by
 obtain⟨hi,rfl⟩:=yc.1 h;rw[List.findIdx?_eq_some_iff_getElem];refine⟨hi,by simp,λ j hj=>?_⟩;simp only[yS];intro e;exact hn j hj (by rw[yb (by omega),e])
theorem zef {Ts:List (List Pc)} {x:List Pc} (hn:∀ j:Nat,Ts[j]?≠some x):Ts.findIdx? (λ y=>decide (y=x))=none:=by
 rw[List.findIdx?_eq_none_iff];intro y hy;obtain⟨j,hj⟩:=yV hy;simp only[decide_eq_false_iff_not];rintro rfl;exact hn j hj
theorem qfP {t:Tk} {L:List E} (ho:OkT t) (ok:TkOk t L) (w:World) (bb:Nat) (bv:BV) (hbd:BdAt w bb bv t L (pcsT t L) (belT t L)) (htb:TbAt w) (hroot:RootOk t L bb bv w)
  (x:List Pc) (hx0:x≠[]) (hxm:∀ p∈x,p∈(piecesT t).flatten) (hx64:x.length≤64) (vl:Value) (hv:RP.Has w vl (x.map (hpT t.ground L))) :
  Calls Tryz.prog 48 #[.pointer (some ⟨bb,0,none⟩),vl] w λ e w'=>∃ v,e=.returned (.tuple #[v,.int .i64 (nextT t x).2])∧RL.Own w' w.heap.size v (nextT t x).1∧Below w.heap.size w w':=by
 have hrg:∀ s,rootT t=some s→GoodT t s:=λ s hs=>zaU hs;obtain⟨la,ln,rfl⟩:∃ la ln,vl=.slice (some la) (x.map (hpT t.ground L)).length ln:=by
  rcases hv with⟨_,h⟩|⟨a,c,h,_⟩
  ·exact absurd (List.map_eq_nil_iff.1 h) hx0
  exact⟨a,c,h⟩
 rw[yB]at hv ⊢;have hB1:Below w.heap.size w (w.alloc (.cells #[.slice (some la) x.length ln] 102)):=(yf _ w).alloc (ye _) _;have hA1:=yd w (.cells #[.slice (some la) x.length ln] 102);have hz1:(w.alloc (.cells #[.slice (some la) x.length ln] 102)).heap.size=w.heap.size+1:=yp _ _;have HTI:=yK (zaG ho ok _ bb bv (hbd.keep hB1) (htb.below hB1) (hroot.below hB1));have HSM:=yK (qau t);have HTL:=yK (λ T h=>zbi (T:=T) ok h hrg);have HTM:Hid (∀ T∈(tilingsT t).1,∀ p∈T,p∈(piecesT t).flatten):=yK λ T hT=>(qdB ho hT).good.mem;have HFT:Hid (nextT t x=if (tilingsT t).2.2≠0 then ([],(tilingsT t).2.2)else match (tilingsT t).1[match (tilingsT t).1.findIdx? (λ y=>decide (y=x))with|some i=>i+1|none=>0]? with|none=>([],7)|some y=>(y.map (·.ld),0)):=yK rfl;have HVL:=yK hv;clear hv;have HXM:=yK hxm;clear hxm;clear ho ok hrg hbd htb hroot hx0;revert HTI HSM HTL HTM HFT;generalize tilingsT t=R;obtain⟨Ts,nn,code⟩:=R;simp only;intro HTI HSM HTL HTM HFT;obtain⟨fl,hfl⟩:∃ fl,nextT t x=fl:=⟨_,rfl⟩;rw[hfl]at HFT ⊢;clear hfl;obtain⟨fl,fc⟩:=fl;go_enter func48,ntmps48;go_wp2_with fail;revert HTI hA1 hB1 hz1;generalize w.alloc (.cells #[.slice (some la) x.length ln] 102)=w1;intro hB1 hA1 hz1 HTI;refine HTI.out.mono ?_;rintro e w2 ⟨v,rfl,hts,hB2⟩;obtain⟨vp,vc,rfl⟩:=hts.slice;have hA2:=(hB2.block _ (ya.1 hA1).1).trans hA1;have hB3:=hB1.trans (hB2.mono hB1.size);have HTS:=yK hts;clear hts;have HB3:=yK hB3;have hsz:=hB3.size;clear hB1 hB2 hA1 hB3 HTI;by_cases hc:code=0
 case neg =>
  have hb:((code:Int) != 0)=true:=by simpa using hc
  have HF:Hid ((fl,fc)=([],code)):=yK (by rw[HFT.out,YA hc]);go_wp2_with fail;go_ret2;have h:=HF.out;simp only[Prod.mk.injEq]at h;obtain⟨rfl,rfl⟩:=h;exact⟨_,rfl,RL.own_nil _ _,HB3.out⟩
 case pos =>
  subst hc;have c3:w2.cell? ⟨w.heap.size,0,none⟩=some (.slice (some la) x.length ln):=by simp[World.cell?,hA2]
  have hne:(binOp .neq 102 (.slice (some la) x.length ln) (.slice none 0 0)).run Tryz.prog w2=.ok (.bool true) w2:=by kernel_rfl
  obtain⟨Ss,hSs,hlen,hent⟩:=HTS.out;have hTsl:Ts.length≤20000:=HSM.out.1;have HIX:=yK (qg8 Ss (Ts.map λ T=>T.map (hpT t.ground L)) (.slice vp Ts.length vc) (.slice (some la) x.length ln) (x.map (hpT t.ground L)) w.heap.size w2 (REnc.Own.has hSs) (by rw[yB];exact hlen) (by omega)
   (λ i S a hS ha=>by
    rw[yQ]at ha
    cases hT:Ts[i]? with
    | none=>rw[hT]at ha;cases ha
    | some T =>
     rw[hT]at ha;simp only[Option.map_some,yo]at ha;subst ha;exact⟨(hent i S T hS hT).2.has,by rw[yB];exact HTL.out T (yg hT)⟩)
   (HVL.out.below HB3.out) (by rw[yB];omega) hA2)
  clear hent hSs hlen;go_wp2_with fail;refine HIX.out.mono ?_;rintro e w3 ⟨r,rfl,hB4,hr⟩;have HT3:=yK (HTS.out.below hB4);have HB4:=yK (HB3.out.trans (hB4.mono HB3.out.size));clear hB4 HIX HTS hne c3 hA2;obtain⟨m,hrm,hml,hidx⟩:∃ m:Nat,r=(m:Int)-1∧m≤20001∧((fl,fc)=match Ts[m]? with|none=>([],7)|some y=>(y.map (·.ld),0)):=by
   have hft:=HFT.out;rw[Yz (by decide)]at hft;rcases hr with⟨i,rfl,h1,h2⟩|⟨rfl,h2⟩
   ·have k1:=(zcL HTM.out HXM.out i).1 h1;have k2:∀ j:Nat,j<i→Ts[j]?≠some x:=λ j hj h=>h2 j hj ((zcL HTM.out HXM.out j).2 h);rw[zfS k1 k2]at hft;exact⟨i+1,by omega,by have:=(yc.1 k1).1;omega,hft⟩
   rw[zef λ j h=>h2 j ((zcL HTM.out HXM.out j).2 h)]at hft;exact⟨0,by omega,by omega,hft⟩
  subst hrm;have HIDX:=yK hidx;clear hidx hr HFT;have he1:(1:Int)+((m:Int)-1)=m:=by omega
  have hw1:IntKind.i64.wrap (m:Int)=m:=by rw[IntKind.wrap_i64];omega
  have hsz3:w.heap.size≤w3.heap.size:=HB4.out.size;by_cases hlt:m<Ts.length
  case neg =>
   have hd:decide ((Ts.length:Int)≤(m:Int))=true:=yw (by omega);have HF:Hid ((fl,fc)=([],7)):=yK (by rw[HIDX.out,List.getElem?_eq_none (by omega)]);clear HIDX;go_wp2_with fail;go_ret2;have h:=HF.out;simp only[Prod.mk.injEq]at h;obtain⟨rfl,rfl⟩:=h;exact⟨_,rfl,RL.own_nil _ _,HB4.out⟩
  have hd:decide ((Ts.length:Int)≤(m:Int))=false:=yv (by omega);obtain⟨T,hT⟩:∃ T,Ts[m]?=some T:=⟨_,yb hlt⟩;have HF:Hid ((fl,fc)=(T.map (·.ld),0)):=yK (by rw[HIDX.out,hT]);clear HIDX;obtain⟨Ss3,hSs,hlen,hent⟩:=HT3.out;obtain⟨S,hS⟩:∃ S,Ss3[m]?=some S:=⟨_,yb (by rw[hlen];exact hlt)⟩;obtain⟨hst,hown⟩:=hent m S T hS hT;have hhas:=REnc.Own.has hSs;obtain⟨xa,hxa,hat⟩:=hhas.at_ (by rintro e;rw[e]at hS;simp at hS);subst hxa;have hld:(Instr.loadAt 108 (.pointer (some (xa.add (m*16))))).run Tryz.prog w3=.ok (.agg (hsVals S).toArray) w3:=qj (P:=Tryz.prog) (R:=RS) underlying108 rfl sizeS hat hS;have hll:=qbW S (T.map (hpT t.ground L)) w3 hown.has (by rw[yB];have:=HTL.out T (yg hT);omega);have HLL:=yK hll;clear hll;have HM:Hid (T.map (·.ld)=(T.map (hpT t.ground L)).map (·.ld)):=yK (by rw[List.map_map];rfl);clear hst hown hhas hat hent hSs hlen hS hT;go_wp2_with (refine zl rfl 108 _ rfl rfl hld ?_);refine HLL.out.mono ?_;rintro e w4 ⟨v,rfl,ho3,hB5⟩;have HO3:=yK ho3;clear ho3;have HB5:=yK hB5;clear hB5;clear HLL hld;go_wp2_with fail;go_ret2;have h:=HF.out;simp only[Prod.mk.injEq]at h;obtain⟨rfl,rfl⟩:=h;refine⟨_,rfl,?_,HB4.out.trans (HB5.out.mono hsz3)⟩;rw[HM.out];exact qN HO3.out hsz3
theorem zhS {t:Tk} (ho:OkT t) {x:List Pc} (h:TlT t x):x≠[]:=by
 rintro rfl;obtain⟨q,hq⟩:=List.exists_mem_of_ne_nil _ (ql ho.ground).2.1;have:=(zeA ho h.good h.full q).2 hq;simp at this
theorem zdL {g:List Q} (hl:g.length*24≤140737488351232) (W:World) (gp:Option Addr) (gc:Nat) (hv:HasQ W (.slice gp g.length gc) g) :
  ∃ vg W2,(Builtin.append_ #[22,22] 22 #[.slice (some ⟨W.heap.size,0,none⟩) 0 0,.slice gp g.length gc]).run Tryz.prog (W.alloc (.cells #[] 56))=.ok vg W2∧OwnQ W2 W.heap.size vg g∧Below W.heap.size W W2:=by
 obtain⟨iQ,hiQ,hzQ,hsQ,hbQ⟩:=info_parts infoQ;have hown0:(W.alloc (.cells #[] 56)).ownsRow W.heap.size 56 3 (.slice (some ⟨W.heap.size,0,none⟩) 0 0) 0 []:=⟨rfl,.inr ⟨W.heap.size,0,#[],rfl,ye _,yd W _,ye _,by decide,rfl,rfl⟩⟩;have hal:Below W.heap.size W (W.alloc (.cells #[] 56)):=(yf _ W).alloc (ye _) _;rcases hv with⟨h1,h2⟩|⟨a,cap,h1,h2,h3,h4⟩
 ·subst h2;simp only[yC,yN,true_and]at h1;obtain⟨rfl,rfl⟩:=h1;exact⟨_,_,run_append_nil _ _,hown0,hal⟩
 ·simp only[yC,true_and]at h1;obtain⟨rfl,rfl⟩:=h1;obtain⟨v',W',hr,ho,hg,_,_⟩:=run_append_own_at (P:=Tryz.prog) (W.alloc (.cells #[] 56)) W.heap.size 22 22 56 iQ _ 3 24 underlying22 hiQ hzQ hsQ hbQ rfl (by decide) (.slice (some ⟨W.heap.size,0,none⟩) 0 0) 0 [] hown0 a g.length gc (qCells g) (qb4 g) (qfg (h4.below hal)) (λ u hu=>by
   obtain⟨q,_,hq⟩:=List.mem_flatMap.1 hu;exact zao q u hq) (by simp only[maxLen];omega) (by omega) (by rw[yp];omega)
  exact⟨v',W',hr,by simpa using ho,hal.grown hg (by rw[yp];omega) λ b e=>by simp only[Value.ownBlock,yo]at e;omega⟩
def NextPost (t:Tk) (l:List Ld) (w:World) (e:Ending) (w':World):Prop:=∃ (u:Value) (code:Nat),e=.returned (.tuple #[u,.int .i64 code])∧Below w.heap.size w w' ∧
 ((u=.slice none 0 0∧((¬ OkT t∧code=2)∨(OkT t∧16<l.length∧code=5)∨(OkT t∧l.length≤16∧coversT t l≠(0,0)∧code=9))) ∨
  (OkT t∧l.length≤16∧coversT t l=(0,0)∧RL.Own w' w.heap.size u (nextT t (parts t l)).1∧code=(nextT t (parts t l)).2))
theorem zgu {t:Tk} (w:World) (vg vk vc vf vb v:Value) (hg:HasQ w vg t.ground) (hk:HasQQ w vk t.kinds) (hc:RI.Has w vc t.counts) (hcf:flatV vc) (hf:RL.Has w vf t.fixed) (hb:RE.Has w vb t.below) (hcl:t.counts.length≤1000) (hbl:t.below.length≤1000000) (htb:TbAt w) (l:List Ld) (hll:l.length≤1000000) (hv:RL.Has w v l) :
  Calls Tryz.prog 28 #[.agg #[vg,vk,vc,vf,vb],v] w (NextPost t l w):=by
 obtain⟨gp,gc,rfl⟩:=hg.slice;obtain⟨kp,kc,rfl⟩:=hk.slice;obtain⟨cp,cc,rfl⟩:=hc.slice;obtain⟨fp,fc,rfl⟩:=hf.slice;obtain⟨bp,bc,rfl⟩:=hb.slice;obtain⟨vp,vq,rfl⟩:=hv.slice;have HTD:Hid (∀ W,Below w.heap.size w W→Calls Tryz.prog 54 #[.agg #[.slice gp t.ground.length gc,.slice kp t.kinds.length kc,.slice cp t.counts.length cc,.slice fp t.fixed.length fc,.slice bp t.below.length bc],.slice vp l.length vq] W (qdD t l (.slice bp t.below.length bc) W)):=yK λ W h=>zgl W _ _ _ _ _ _ (hg.below h) (hk.below h) (hc.below h) hcf (hf.below h) (hb.below h) hcl hbl (htb.below h) l hll (hv.below h);have HTB:=yK htb;clear htb hg hk hc hcf hf hb hv;have hT:=yd w (.cells #[.slice gp t.ground.length gc,.slice kp t.kinds.length kc,.slice cp t.counts.length cc,.slice fp t.fixed.length fc,.slice bp t.below.length bc] 34);have hB:Below w.heap.size w (w.alloc (.cells #[.slice gp t.ground.length gc,.slice kp t.kinds.length kc,.slice cp t.counts.length cc,.slice fp t.fixed.length fc,.slice bp t.below.length bc] 34)):=(yf _ w).alloc (ye _) _;have hst:(Tryz.prog.info? 34).map (·.size)=some (#[.slice gp t.ground.length gc,.slice kp t.kinds.length kc,.slice cp t.counts.length cc,.slice fp t.fixed.length fc,.slice bp t.below.length bc]:Array Value).size:=sizeTask;go_enter func28,ntmps28;go_upto_region 1 with fail;revert hT hB;change _→_→Code.wp _ _ _ _ (w.alloc (.cells #[.slice gp t.ground.length gc,.slice kp t.kinds.length kc,.slice cp t.counts.length cc,.slice fp t.fixed.length fc,.slice bp t.below.length bc] 34));generalize w.alloc (.cells #[.slice gp t.ground.length gc,.slice kp t.kinds.length kc,.slice cp t.counts.length cc,.slice fp t.fixed.length fc,.slice bp t.below.length bc] 34)=w1;intro hT hB;have HB:=yK hB;clear hB;go_wp2_with (refine Yb rfl 34 _ rfl w.heap.size rfl 34 #[.slice gp t.ground.length gc,.slice kp t.kinds.length kc,.slice cp t.counts.length cc,.slice fp t.fixed.length fc,.slice bp t.below.length bc] (0,0) _ hT underlying34 rfl hst ?_);refine (HTD.out w1 HB.out).mono ?_;rintro e w2 ⟨hB2,hcase⟩;have HB2:=yK (HB.out.trans (hB2.mono HB.out.size));have hw1:w.heap.size≤w1.heap.size:=HB.out.size;clear hT hB2 HB hst HTD;rcases hcase with⟨code,rfl,hco⟩|⟨bb,bv,L,S,rfl,hok,hlen,hcv,hbd,hL,hSt,hown,_⟩
 case inl =>
  have HCO:=yK hco;have hb:((code:Int) != 0)=true:=by
   have:code≠0:=by rcases hco with⟨_,h⟩|⟨_,_,h⟩|⟨_,_,_,h⟩ <;> omega
   simpa using this
  have hss:(Tryz.prog.info? 108).map (·.size)=some (hsVals zeroS).toArray.size:=sizeS;have hone:(hsVals zeroS).toArray.all (·.oneCell')=true:=by simp[hsVals,zeroS,Value.oneCell']
  have hBn:Below w.heap.size w ((w2.alloc (.cells (hsVals zeroS).toArray 108))):=HB2.out.alloc HB2.out.size _;have HBN:=yK hBn;clear hBn hco;go_wp2_with (refine wpList_store_row rfl 108 _ _ rfl w2.heap.size rfl 108 _ (hsVals zeroS).toArray rfl (yd w2 _) hss rfl hone ?_;rw[World.setRow_alloc_new]);go_ret2;exact⟨_,code,rfl,HBN.out,.inl ⟨rfl,HCO.out⟩⟩
 case inr =>
  obtain⟨hfull,hpe⟩:=qeE hok hcv;obtain⟨x,hx⟩:∃ x,parts t l=x:=⟨_,rfl⟩;rw[hx]at hfull hown hSt;have HX:=yK hx;clear hx hpe;have hne:=zhS hok hfull.toTlT;have h16:=zhJ hok hfull.toTlT;have hss:(Tryz.prog.info? 108).map (·.size)=some (hsVals S).toArray.size:=sizeS;have hone:(hsVals S).toArray.all (·.oneCell')=true:=by simp[hsVals,Value.oneCell']
  have hal:Below w2.heap.size w2 (w2.alloc (.cells (hsVals S).toArray 108)):=(yf _ w2).alloc (ye _) _;have hS3:=yd w2 (.cells (hsVals S).toArray 108);have HB3:=yK (HB2.out.trans (hal.mono HB2.out.size));have HAF:=yK (qfP hok (qX hok hL) _ bb bv (hbd.keep hal) (HTB.out.below HB3.out) (λ W' hb' _=>za1 (qX hok hL) W' bb bv hb') x hne hfull.good.mem (by omega) S.laid (REnc.Own.has (qf hown hal)));have HEND:Hid (OkT t∧l.length≤16∧coversT t l=(0,0)):=yK ⟨hok,hlen,hcv⟩;clear hok hlen hcv hbd hL hSt hown hfull hne h16 hal;obtain⟨sp,sn,sc,sst,sb,sj,sm⟩:=S;go_upto_region 2 with (refine wpList_store_row rfl 108 _ _ rfl w2.heap.size rfl 108 _ (hsVals ⟨sp,sn,sc,sst,sb,sj,sm⟩).toArray rfl (yd w2 _) hss rfl hone ?_;rw[World.setRow_alloc_new]);revert hS3 HB3 HAF;change _→_→_→Code.wp _ _ _ _ (w2.alloc (.cells (hsVals ⟨sp,sn,sc,sst,sb,sj,sm⟩).toArray 108));generalize w2.alloc (.cells (hsVals ⟨sp,sn,sc,sst,sb,sj,sm⟩).toArray 108)=w3;intro hS3 HB3 HAF;have c0:w3.cell? ⟨w2.heap.size,0,none⟩=some (.slice sp sn sc):=by simp only[World.cell?,hS3];rfl
  clear hS3 hss hone;go_wp2_with fail;refine HAF.out.mono ?_;rintro e w4 ⟨u,rfl,hu,hb4⟩;have HB4:=yK (HB3.out.trans (hb4.mono HB3.out.size));have HU:=yK (qN hu (show w.heap.size≤w3.heap.size from HB3.out.size));clear hb4 hu HAF c0;go_wp2_with fail;go_ret2;refine⟨u,_,rfl,HB4.out,.inr ⟨HEND.out.1,HEND.out.2.1,HEND.out.2.2,?_,?_⟩⟩
  ·rw[HX.out];exact HU.out
  rw[HX.out]
def WhyPost (t:Tk) (w:World) (e:Ending) (w':World):Prop:=∃ r code:Nat,e=.returned (.tuple #[.int .i64 r,.int .i64 code])∧Below w.heap.size w w'∧(OkT t→(r,code)=whyT t)∧(¬ OkT t→r=0∧code=2)
theorem zhh {t:Tk} (w:World) (vg vk vc vf vb:Value) (hg:HasQ w vg t.ground) (hk:HasQQ w vk t.kinds) (hc:RI.Has w vc t.counts) (hcf:flatV vc) (hf:RL.Has w vf t.fixed) (hb:RE.Has w vb t.below) (hcl:t.counts.length≤1000) (hbl:t.below.length≤1000000) (htb:TbAt w) :
  Calls Tryz.prog 24 #[.agg #[vg,vk,vc,vf,vb]] w (WhyPost t w):=by
 obtain⟨gp,gc,rfl⟩:=hg.slice;obtain⟨kp,kc,rfl⟩:=hk.slice;obtain⟨cp,cc,rfl⟩:=hc.slice;obtain⟨fp,fc,rfl⟩:=hf.slice;obtain⟨bp,bc,rfl⟩:=hb.slice;have HCK:Hid (∀ W,Below w.heap.size w W→Calls Tryz.prog 13 #[.agg #[.slice gp t.ground.length gc,.slice kp t.kinds.length kc,.slice cp t.counts.length cc,.slice fp t.fixed.length fc,.slice bp t.below.length bc]] W (CkPost t W)):=yK
  λ W h=>qan W _ _ _ _ _ (hg.below h) (hk.below h) (hc.below h) (hf.below h) (hb.below h) hcl hbl
 have HLY:Hid (∀ W,Below w.heap.size w W→OkT t→Calls Tryz.prog 37 #[.agg #[.slice gp t.ground.length gc,.slice kp t.kinds.length kc,.slice cp t.counts.length cc,.slice fp t.fixed.length fc,.slice bp t.below.length bc]] W λ e w'=>∃ (bb:Nat) (bv:BV) (L:List E),e=.returned (.pointer (some ⟨bb,0,none⟩))∧W.heap.size≤bb∧BdAt w' bb bv t L (pcsT t L) (belT t L)∧LOk t.ground L∧Below W.heap.size W w'):=yK
  λ W h ho=>zby ho W _ _ _ _ _ (hg.below h) (hk.below h) (hc.below h) hcf (hf.below h) (hb.below h)
 have HTB:=yK htb;clear htb hg hk hc hf hb hcf;go_enter func24,ntmps24;go_wp2_with fail;have hT:=yd w (.cells #[.slice gp t.ground.length gc,.slice kp t.kinds.length kc,.slice cp t.counts.length cc,.slice fp t.fixed.length fc,.slice bp t.below.length bc] 34);have hB:Below w.heap.size w (w.alloc (.cells #[.slice gp t.ground.length gc,.slice kp t.kinds.length kc,.slice cp t.counts.length cc,.slice fp t.fixed.length fc,.slice bp t.below.length bc] 34)):=(yf _ w).alloc (ye _) _;revert hT hB;generalize w.alloc (.cells #[.slice gp t.ground.length gc,.slice kp t.kinds.length kc,.slice cp t.counts.length cc,.slice fp t.fixed.length fc,.slice bp t.below.length bc] 34)=w1;intro hT hB;have HB:=yK hB;clear hB;have htl:=(ya.1 hT).1;refine (HCK.out w1 HB.out).mono ?_;rintro e w2 ⟨code,rfl,h0,h2,hB2⟩;have hT2:=(hB2.block _ htl).trans hT;have HB2:=yK (HB.out.trans (hB2.mono HB.out.size));clear hB2 HB htl;have hcell:∀ j,w2.cell? ⟨w.heap.size,j,none⟩=(#[.slice gp t.ground.length gc,.slice kp t.kinds.length kc,.slice cp t.counts.length cc,.slice fp t.fixed.length fc,.slice bp t.below.length bc]:Array Value)[j]?:=λ j=>by simp only[World.cell?,hT2];simp
 have c0:=hcell 0;have c1:=hcell 1;have c2:=hcell 2;have c3:=hcell 3;have c4:=hcell 4;simp at c0 c1 c2 c3 c4;clear hcell hT HCK hT2;rcases h2 with rfl|rfl
 case inr =>
  have HN:Hid (¬ OkT t):=yK λ h=>absurd (h0.2 h) (by decide);clear HLY h0 c0 c1 c2 c3 c4;go_wp2_with fail;go_ret2;exact⟨0,2,rfl,HB2.out,λ h=>absurd h HN.out,λ _=>⟨rfl,rfl⟩⟩
 case inl =>
  have HOK:Hid (OkT t):=yK (h0.1 rfl);have HL:=yK (HLY.out w2 HB2.out HOK.out);clear HLY h0;go_wp2_with fail;refine HL.out.mono ?_;rintro e w3 ⟨bb,bv,L,rfl,hbb,hbd,hlok,hB3⟩;have HB3:=yK (HB2.out.trans (hB3.mono HB2.out.size));clear hB3 HL;have HLK:=yK hlok;clear hlok;have HBD:=yK hbd;have HRO:=yK (za1 (qX HOK.out HLK.out) w3 bb bv hbd);clear hbd c0 c1 c2 c3 c4 hbb;go_wp2_with fail;refine HRO.out.mono ?_;rintro e w4 ⟨S,b,rfl,hyes,hno,hB4⟩;have HBD4:=yK (HBD.out.keep hB4);have HB4:=yK (HB3.out.trans (hB4.mono HB3.out.size));have HY:Hid (b=true→∃ s,rootT t=some s):=yK λ h=>(hyes h).imp λ s hs=>hs.1;have HNO:=yK hno;clear HRO HBD hB4 hyes hno;have hss:(Tryz.prog.info? 108).map (·.size)=some (hsVals S).toArray.size:=sizeS;have hone:(hsVals S).toArray.all (·.oneCell')=true:=by simp[hsVals,Value.oneCell']
  have hal:Below w4.heap.size w4 (w4.alloc (.cells (hsVals S).toArray 108)):=(yf _ w4).alloc (ye _) _;have HB5:=yK (HB4.out.trans (hal.mono HB4.out.size));have HBD5:=yK (HBD4.out.keep hal);clear hal HBD4;go_upto_region 6 with (refine wpList_store_row rfl 108 _ _ rfl w4.heap.size rfl 108 _ (hsVals S).toArray rfl (yd w4 _) hss rfl hone ?_;rw[World.setRow_alloc_new]);clear hss hone;revert HB5 HBD5;change _→_→Code.wp _ _ _ _ (w4.alloc (.cells (hsVals S).toArray 108));generalize w4.alloc (.cells (hsVals S).toArray 108)=w5;intro HB5 HBD5
  cases b with
  | false =>
   have HW:Hid (whyT t=(1,0)):=yK (by unfold whyT;rw[HNO.out rfl]);clear HY HNO;go_wp2_with fail;go_ret2;exact⟨1,0,rfl,HB5.out,λ _=>HW.out.symm,λ h=>absurd HOK.out h⟩
  | true =>
   obtain⟨s,hs⟩:=HY.out rfl;have HS:=yK hs;have HFI:=yK (fits_any w5 bb bv t L _ _ HBD5.out HOK.out);have HTI:=yK (zaG HOK.out (qX HOK.out HLK.out) w5 bb bv HBD5.out (HTB.out.below HB5.out) λ W' hb' _=>za1 (qX HOK.out HLK.out) W' bb bv hb');have HSM:=yK (qau t);clear HY HNO hs;go_wp2_with fail;refine HFI.out.mono ?_;rintro e w6 ⟨rfl,rfl⟩;obtain⟨ft,hft⟩:∃ ft,fitsT t=ft:=⟨_,rfl⟩;rw[hft];have HFT:=yK hft;clear hft HFI
   cases ft with
   | false =>
    have HW:Hid (whyT t=(2,0)):=yK (by unfold whyT;rw[HS.out];simp only[HFT.out];rfl);clear HTI;go_wp2_with fail;go_ret2;exact⟨2,0,rfl,HB5.out,λ _=>HW.out.symm,λ h=>absurd HOK.out h⟩
   | true =>
    have HW:Hid (whyT t=if (tilingsT t).2.2≠0 then (0,(tilingsT t).2.2)else if (tilingsT t).1≠[]then (0,9)else (3,0)):=yK (by unfold whyT;rw[HS.out];simp only[HFT.out,if_true]);clear HS HFT;revert HTI HW HSM;generalize tilingsT t=R;obtain⟨Ts,nn,code⟩:=R;simp only;intro HSM HTI HW;obtain⟨wt,hwt⟩:∃ wt,whyT t=wt:=⟨_,rfl⟩;go_wp2_with fail;refine HTI.out.mono ?_;rintro e w7 ⟨v,rfl,hts,hB7⟩;obtain⟨vp,vc,rfl⟩:=hts.slice;have HB7:=yK (HB5.out.trans (hB7.mono HB5.out.size));clear hts hB7 HTI hwt;by_cases hcz:code=0
    case neg =>
     have hb:((code:Int) != 0)=true:=(by simpa using hcz);have HX:Hid (whyT t=(0,code)):=yK (by rw[HW.out,YA hcz]);clear HW;go_wp2_with fail;go_ret2;exact⟨0,code,rfl,HB7.out,λ _=>HX.out.symm,λ h=>absurd HOK.out h⟩
    subst hcz
    cases Ts with
    | nil =>
     have HX:Hid (whyT t=(3,0)):=yK (by rw[HW.out];rfl);clear HW;go_wp2_with fail;go_ret2;exact⟨3,0,rfl,HB7.out,λ _=>HX.out.symm,λ h=>absurd HOK.out h⟩
    | cons T Ts =>
     have HX:Hid (whyT t=(0,9)):=yK (by rw[HW.out];rfl);have hgt:decide ((0:Int)<((T :: Ts).length:Int))=true:=yw (by simp);have hgt2:(0:Int)<((T :: Ts).length:Int):=(by simp);clear HW;go_wp2_with fail;go_ret2;exact⟨0,9,rfl,HB7.out,λ _=>HX.out.symm,λ h=>absurd HOK.out h⟩
theorem qcf {α:Type} (R:REnc α) (hn:0<R.n) {T:TypeId} (hT:Tryz.prog.underlying T=some (.slice R.ty)) (bytes:Nat) (hi:∃ (i:TypeInfo) (z:Value),Tryz.prog.info? R.ty=some i∧i.zero=some z∧z.cells.size=R.n∧i.size=R.n∧i.bytes=bytes) (hby:0<bytes∧bytes≤40)
  (hnil:∀ (W:World) (b:Nat),(Builtin.append_ #[T,T] T #[.slice (some ⟨b,0,none⟩) 0 0,.slice none 0 0]).run Tryz.prog W=.ok (.slice (some ⟨b,0,none⟩) 0 0) W)
  {l:List α} (hl:l.length≤1000000) (W:World) (p:Option Addr) (c:Nat) (hv:R.Has W (.slice p l.length c) l) :
  ∃ vg W2,(Builtin.append_ #[T,T] T #[.slice (some ⟨W.heap.size,0,none⟩) 0 0,.slice p l.length c]).run Tryz.prog (W.alloc (.cells #[] R.ty))=.ok vg W2∧R.Own W2 W.heap.size vg l∧Below W.heap.size W W2:=by
 obtain⟨i,z,hiQ,hzQ,hzs,hsQ,hbQ⟩:=hi;have hown0:(W.alloc (.cells #[] R.ty)).ownsRow W.heap.size R.ty R.n (.slice (some ⟨W.heap.size,0,none⟩) 0 0) 0 []:=⟨by simp,.inr ⟨W.heap.size,0,#[],rfl,ye _,yd W _,ye _,by decide,by simp,by simp⟩⟩;have hal:Below W.heap.size W (W.alloc (.cells #[] R.ty)):=(yf _ W).alloc (ye _) _;rcases hv with⟨h1,h2⟩|⟨a,cap,h1,h2,h3,h4⟩
 ·subst h2;simp only[yC,yN,true_and]at h1;obtain⟨rfl,rfl⟩:=h1;exact⟨_,_,hnil _ _,hown0,hal⟩
 ·simp only[yC,true_and]at h1;obtain⟨rfl,rfl⟩:=h1;have hb2:(0+l.length)*bytes≤140737488355328:=by
   rw[Nat.zero_add];have:l.length*bytes≤1000000*40:=Nat.mul_le_mul hl hby.2;omega
  obtain⟨v',W',hr,ho,hg,_,_⟩:=run_append_own_at (P:=Tryz.prog) (W.alloc (.cells #[] R.ty)) W.heap.size T T R.ty i z R.n bytes hT hiQ hzQ hsQ hbQ hzs hn (.slice (some ⟨W.heap.size,0,none⟩) 0 0) 0 [] hown0 a l.length c (R.cells l) (R.cells_length l) (qbR hn (h4.below hal)) (λ u hu=>by obtain⟨x,_,hx⟩:=List.mem_flatMap.1 hu;exact R.one x u hx) (by simp only[maxLen];omega) hb2 (by rw[yp];omega);exact⟨v',W',hr,by simpa[REnc.Own]using ho,hal.grown hg (by rw[yp];omega) λ b e=>by simp only[Value.ownBlock,yo]at e;omega⟩
theorem zbV {T:TypeId} {z:Value} {n b:Nat} (h:(Tryz.prog.info? T).map (λ i=>(i.zero,i.size,i.bytes))=some (some z,n,b)) (hz:z.cells.size=n):∃ (i:TypeInfo) (z:Value),Tryz.prog.info? T=some i∧i.zero=some z∧z.cells.size=n∧i.size=n∧i.bytes=b:=by
 obtain⟨i,h1,h2,h3,h4⟩:=info_parts h;exact⟨i,z,h1,h2,hz,h3,h4⟩
theorem zf1 {l:List Ld} (hl:l.length≤1000000) (W:World) (p:Option Addr) (c:Nat) (hv:RL.Has W (.slice p l.length c) l) :
  ∃ vg W2,(Builtin.append_ #[31,31] 31 #[.slice (some ⟨W.heap.size,0,none⟩) 0 0,.slice p l.length c]).run Tryz.prog (W.alloc (.cells #[] 50))=.ok vg W2∧RL.Own W2 W.heap.size vg l∧Below W.heap.size W W2 :=
 qcf RL (by decide) underlying31 40 (zbV infoLd rfl) (by decide) (λ W b=>by simp[Builtin.append_,go_sem]) hl W p c hv
theorem qe2 {l:List E} (hl:l.length≤1000000) (W:World) (p:Option Addr) (c:Nat) (hv:RE.Has W (.slice p l.length c) l) :
  ∃ vg W2,(Builtin.append_ #[32,32] 32 #[.slice (some ⟨W.heap.size,0,none⟩) 0 0,.slice p l.length c]).run Tryz.prog (W.alloc (.cells #[] 61))=.ok vg W2∧RE.Own W2 W.heap.size vg l∧Below W.heap.size W W2 :=
 qcf RE (by decide) underlying32 24 (zbV infoE rfl) (by decide) (λ W b=>by simp[Builtin.append_,go_sem]) hl W p c hv
theorem zbg {g:List Q} (hl:g.length*24≤140737488351232) (v:Value) (w:World) (hv:HasQ w v g) :
  Calls Tryz.prog 31 #[v] w λ e w'=>∃ u,e=.returned u∧OwnQ w' w.heap.size u g∧Below w.heap.size w w':=by
 obtain⟨p,c,rfl⟩:=hv.slice;obtain⟨vg,W2,hap,hog,hb⟩:=zdL hl w p c hv;have HAP:=yK hap;clear hap hv;have HO:=yK (And.intro hog hb);clear hog hb;go_enter func31,ntmps31;go_wp2_with (first|(at_builtin;refine qap rfl _ _ 22 rfl rfl rfl HAP.out ?_));go_ret;exact⟨vg,rfl,HO.out.1,HO.out.2⟩
theorem zf3 {l:List Ld} (hl:l.length≤1000000) (v:Value) (w:World) (hv:RL.Has w v l) :
  Calls Tryz.prog 26 #[v] w λ e w'=>∃ u,e=.returned u∧RL.Own w' w.heap.size u l∧Below w.heap.size w w':=by
 obtain⟨p,c,rfl⟩:=hv.slice;obtain⟨vg,W2,hap,hog,hb⟩:=zf1 hl w p c hv;have HAP:=yK hap;clear hap hv;have HO:=yK (And.intro hog hb);clear hog hb;go_enter func26,ntmps26;go_wp2_with (first|(at_builtin;refine qap rfl _ _ 31 rfl rfl rfl HAP.out ?_));go_ret;exact⟨vg,rfl,HO.out.1,HO.out.2⟩
theorem zfx {l:List E} (hl:l.length≤1000000) (v:Value) (w:World) (hv:RE.Has w v l) :
  Calls Tryz.prog 64 #[v] w λ e w'=>∃ u,e=.returned u∧RE.Own w' w.heap.size u l∧Below w.heap.size w w':=by
 obtain⟨p,c,rfl⟩:=hv.slice;obtain⟨vg,W2,hap,hog,hb⟩:=qe2 hl w p c hv;have HAP:=yK hap;clear hap hv;have HO:=yK (And.intro hog hb);clear hog hb;go_enter func64,ntmps64;go_wp2_with (first|(at_builtin;refine qap rfl _ _ 32 rfl rfl rfl HAP.out ?_));go_ret;exact⟨vg,rfl,HO.out.1,HO.out.2⟩
def qcb (x y:Nat):List Q:=(List.range 4).map λ (s:Nat)=>(⟨(x:Int),(y:Int),(s:Int)⟩:Q)
def qdQ (W y:Nat):List Q:=(List.range W).flatMap λ x=>qcb x y
def cellsP (W y x s:Nat):List Q:=((List.range y).flatMap λ y=>qdQ W y)++((List.range x).flatMap λ x=>qcb x y)++(List.range s).map λ (s:Nat)=>(⟨(x:Int),(y:Int),(s:Int)⟩:Q)
def qB (W H:Nat):List Q:=(List.range H).flatMap λ y=>qdQ W y
theorem zg3 (W y x s:Nat):cellsP W y x (s+1)=cellsP W y x s++[⟨(x:Int),(y:Int),(s:Int)⟩]:=by
 unfold cellsP;rw[Yl (n:=s),Ym,← List.append_assoc];rfl
theorem qg4 (W y x:Nat):cellsP W y x 4=cellsP W y (x+1) 0:=by
 unfold cellsP;rw[Yl (n:=x),List.flatMap_append];simp[qcb]
theorem qgq (W y:Nat):cellsP W y W 0=cellsP W (y+1) 0 0:=by
 unfold cellsP;rw[Yl (n:=y),List.flatMap_append];simp[qdQ]
theorem qe1 (W H:Nat):cellsP W H 0 0=qB W H:=by
 unfold cellsP qB;simp
theorem qdc (x y:Nat):(qcb x y).length=4:=by simp[qcb]
theorem zbW {α:Type} {f:Nat→List α} {c:Nat} (h:∀ i,(f i).length=c) (n:Nat):((List.range n).flatMap f).length=n*c:=by
 induction n with
 | zero=>simp
 | succ n ih=>rw[Yl,List.flatMap_append,yL,ih];simp[h,Nat.succ_mul]
theorem zfb (W y x s:Nat):(cellsP W y x s).length=y*(W*4)+x*4+s:=by
 unfold cellsP;rw[yL,yL,zbW (c:=W*4) (λ i=>by unfold qdQ;exact zbW (λ j=>qdc j i) W),zbW (λ j=>qdc j y)];simp
theorem zbO (W H:Nat) (hW:W≤8) (hH:H≤8) (w:World) :
  Calls Tryz.prog 63 #[.int .i64 W,.int .i64 H] w λ e w'=>∃ u,e=.returned u∧OwnQ w' w.heap.size u (qB W H)∧Below w.heap.size w w':=by
 have hal:Below w.heap.size w (w.alloc (.cells #[] 56)):=(yf _ w).alloc (ye _) _;have hown:OwnQ (w.alloc (.cells #[] 56)) w.heap.size (.slice (some ⟨w.heap.size,0,none⟩) 0 0) (cellsP W 0 0 0):=⟨rfl,.inr ⟨w.heap.size,0,#[],rfl,ye _,yd w _,ye _,by decide,rfl,rfl⟩⟩;have H0:=yK (And.intro hown hal);clear hal hown;go_enter func63,ntmps63;go_wp2_with fail;revert H0;generalize w.alloc (.cells #[] 56)=w1;intro H0;go_loopw [5,6] (λ u z wr=>∃ y:Nat,y≤H∧z=.int .i64 y∧Hid (OwnQ wr w.heap.size u (cellsP W y 0 0)∧Below w.heap.size w wr)) (λ _ z _=>H-(intOf z).toNat)
 case atStart=>exact⟨0,YC _,rfl,H0⟩
 case round =>
  clear H0;obtain⟨y,hy,rfl,HR⟩:=hrel;by_cases hlt:y<H
  case neg =>
   obtain rfl:y=H:=(by omega);go_wp2_with fail;go_ret;exact⟨_,rfl,by rw[← qe1];exact HR.out.1,HR.out.2⟩
  go_wp2_with fail;go_loopw [5,7] (λ u z wq=>∃ x:Nat,x≤W∧z=.int .i64 x∧Hid (OwnQ wq w.heap.size u (cellsP W y x 0)∧Below w.heap.size w wq)) (λ _ z _=>W-(intOf z).toNat)
  case atStart=>exact⟨0,YC _,rfl,HR⟩
  clear HR;obtain⟨x,hx,rfl,HR⟩:=hrel;by_cases hlx:x<W
  case neg =>
   obtain rfl:x=W:=(by omega);go_wp2_with fail
   go_roundw
   case rel=>exact⟨y+1,by omega,by go_num,yK ⟨by rw[← qgq];exact HR.out.1,HR.out.2⟩⟩
   case measure=>simp only[intOf];omega
  go_wp2_with fail;go_loopw [5,8] (λ u z wq=>∃ s:Nat,s≤4∧z=.int .i64 s∧Hid (OwnQ wq w.heap.size u (cellsP W y x s)∧Below w.heap.size w wq)) (λ _ z _=>4-(intOf z).toNat)
  case atStart=>exact⟨0,YC _,rfl,HR⟩
  clear HR;obtain⟨s,hs,rfl,HR⟩:=hrel;by_cases hls:s<4
  case neg =>
   obtain rfl:s=4:=(by omega);go_wp2_with fail
   go_roundw
   case rel=>exact⟨x+1,by omega,by go_num,yK ⟨by rw[← qg4];exact HR.out.1,HR.out.2⟩⟩
   case measure=>simp only[intOf];omega
  obtain⟨up,uc,rfl⟩:=qg HR.out.1;have hln:(cellsP W y x s).length≤1000:=by
   rw[zfb];have:y*(W*4)≤8*(8*4):=Nat.mul_le_mul (by omega) (by omega);omega
  have hsn:=zg3 W y x s;obtain⟨ls,hlse⟩:∃ ls,cellsP W y x s=ls:=⟨_,rfl⟩;rw[hlse]at HR hln hsn ⊢;have HSN:=yK hsn;clear hsn hlse;have HWZ:=yK HR.out.2.size;obtain⟨iQ,hiQ,hzQ,hsQ,hbQ⟩:=info_parts infoQ;have HM1:Hid (ls.length+1≤maxLen):=yK (by simp only[maxLen];omega);have HM2:Hid ((ls.length+1)*24≤140737488355328):=yK (by omega);have HCE:=yK (zI (cs:=qVals ⟨(x:Int),(y:Int),(s:Int)⟩) (yd wr (.cells (qVals ⟨(x:Int),(y:Int),(s:Int)⟩).toArray 56)));go_wp2_with (first
   | (refine qbe rfl _ rfl rfl underlying22 hiQ hzQ (by rw[hsQ];decide) (by rw[hsQ];decide) (cells:=(qVals ⟨(x:Int),(y:Int),(s:Int)⟩).toArray) (by rw[hsQ];exact fill_q ⟨(x:Int),(y:Int),(s:Int)⟩) ?_)
   | (at_builtin;refine wpList_append_own_at (P:=Tryz.prog) _ rfl _ _ 22 rfl w.heap.size 56 iQ _ 3 24 underlying22 hiQ hzQ hsQ hbQ rfl (by decide) (.slice up ls.length uc) ls.length (qCells ls) rfl (qf HR.out.1 ((yf _ wr).alloc (ye _) _)) ⟨wr.heap.size,0,none⟩ 1 1 (qVals ⟨(x:Int),(y:Int),(s:Int)⟩) rfl rfl HCE.out (zao _) HM1.out HM2.out (by rw[yp];have:=HWZ.out;omega) ?_;intro v' w7 hown' hgrow _ hat;obtain⟨p',c',rfl⟩:=qg hown'))
  have hbb:Below w.heap.size w w7:=(HR.out.2.alloc HR.out.2.size _).grown hgrow (by rw[yp];have:=HWZ.out;omega) λ b e=>(zf HR.out.1 e).1;refine⟨⟨s+1,by omega,by go_num,yK ⟨?_,hbb⟩⟩,by simp only[intOf];omega⟩;rw[HSN.out];unfold OwnQ;rw[zaj,yL];exact hown'
def zd2 (t:Tk):Prop:=t.ground.length≤70∧t.kinds.length≤10∧t.counts.length≤10∧t.fixed.length≤20∧t.below.length≤410
def qaQ (t:Tk):Prop:=zd2 t∧∀ s∈t.kinds,s.length≤20
theorem qgh {t:Tk} (w:World) (vg vk vc vf vb:Value) (hg:HasQ w vg t.ground) (hk:HasQQ w vk t.kinds) (hc:RI.Has w vc t.counts) (hf:RL.Has w vf t.fixed) (hb:RE.Has w vb t.below) :
  Calls Tryz.prog 62 #[.agg #[vg,vk,vc,vf,vb]] w λ e w'=>∃ r:Bool,e=.returned (.bool r)∧(r=false↔qaQ t)∧Below w.heap.size w w':=by
 obtain⟨gp,gc,rfl⟩:=hg.slice;obtain⟨kp,kc,rfl⟩:=hk.slice;obtain⟨cp,cc,rfl⟩:=hc.slice;obtain⟨fp,fc,rfl⟩:=hf.slice;obtain⟨bp,bc,rfl⟩:=hb.slice;clear hg hc hf hb;have hT:=yd w (.cells #[.slice gp t.ground.length gc,.slice kp t.kinds.length kc,.slice cp t.counts.length cc,.slice fp t.fixed.length fc,.slice bp t.below.length bc] 34);have hB:Below w.heap.size w (w.alloc (.cells #[.slice gp t.ground.length gc,.slice kp t.kinds.length kc,.slice cp t.counts.length cc,.slice fp t.fixed.length fc,.slice bp t.below.length bc] 34)):=(yf _ w).alloc (ye _) _;have hk1:=hk.below hB;go_enter func62,ntmps62;go_upto_region 1 with fail;revert hT hB hk1;change _→_→_→Code.wp _ _ _ _ (w.alloc (.cells #[.slice gp t.ground.length gc,.slice kp t.kinds.length kc,.slice cp t.counts.length cc,.slice fp t.fixed.length fc,.slice bp t.below.length bc] 34));generalize w.alloc (.cells #[.slice gp t.ground.length gc,.slice kp t.kinds.length kc,.slice cp t.counts.length cc,.slice fp t.fixed.length fc,.slice bp t.below.length bc] 34)=w1;intro hT hB hk1;have HB:=yK hB;clear hB hk;have HK:=yK hk1;clear hk1;have e0:w1.cell? ⟨w.heap.size,0,none⟩=some (.slice gp t.ground.length gc):=by simp only[World.cell?,hT];rfl
 have e1:w1.cell? ⟨w.heap.size,1,none⟩=some (.slice kp t.kinds.length kc):=by simp only[World.cell?,hT];rfl
 have e2:w1.cell? ⟨w.heap.size,2,none⟩=some (.slice cp t.counts.length cc):=by simp only[World.cell?,hT];rfl
 have e3:w1.cell? ⟨w.heap.size,3,none⟩=some (.slice fp t.fixed.length fc):=by simp only[World.cell?,hT];rfl
 have e4:w1.cell? ⟨w.heap.size,4,none⟩=some (.slice bp t.below.length bc):=by simp only[World.cell?,hT];rfl
 clear hT;go_cut [31]from 4 to 31 (λ u wx=>∃ r:Bool,u=.bool r∧Hid (r=false↔zd2 t)∧wx=w1)
 case first =>
  by_cases h1:t.ground.length≤70
  case neg =>
   have d1:decide ((70:Int)<(t.ground.length:Int))=true:=yw (by omega);have H1:=yK h1;clear h1;go_wp2_with fail
   go_meet
   case rel=>exact⟨true,rfl,yK ⟨λ h=>(by cases h),λ h=>absurd h.1 H1.out⟩,rfl⟩
  have d1:decide ((70:Int)<(t.ground.length:Int))=false:=yv (by omega);have H1:=yK h1;clear h1;by_cases h2:t.kinds.length≤10
  case neg =>
   have d2:decide ((10:Int)<(t.kinds.length:Int))=true:=yw (by omega);have H2:=yK h2;clear h2;go_wp2_with fail
   go_meet
   case rel=>exact⟨true,rfl,yK ⟨λ h=>(by cases h),λ h=>absurd h.2.1 H2.out⟩,rfl⟩
  have d2:decide ((10:Int)<(t.kinds.length:Int))=false:=yv (by omega);have H2:=yK h2;clear h2;by_cases h3:t.counts.length≤10
  case neg =>
   have d3:decide ((10:Int)<(t.counts.length:Int))=true:=yw (by omega);have H3:=yK h3;clear h3;go_wp2_with fail
   go_meet
   case rel=>exact⟨true,rfl,yK ⟨λ h=>(by cases h),λ h=>absurd h.2.2.1 H3.out⟩,rfl⟩
  have d3:decide ((10:Int)<(t.counts.length:Int))=false:=yv (by omega);have H3:=yK h3;clear h3;by_cases h4:t.fixed.length≤20
  case neg =>
   have d4:decide ((20:Int)<(t.fixed.length:Int))=true:=yw (by omega);have H4:=yK h4;clear h4;go_wp2_with fail
   go_meet
   case rel=>exact⟨true,rfl,yK ⟨λ h=>(by cases h),λ h=>absurd h.2.2.2.1 H4.out⟩,rfl⟩
  have d4:decide ((20:Int)<(t.fixed.length:Int))=false:=yv (by omega);have H4:=yK h4;clear h4;by_cases h5:t.below.length≤410
  case neg =>
   have d5:decide ((410:Int)<(t.below.length:Int))=true:=yw (by omega);have H5:=yK h5;clear h5;go_wp2_with fail
   go_meet
   case rel=>exact⟨true,rfl,yK ⟨λ h=>(by cases h),λ h=>absurd h.2.2.2.2 H5.out⟩,rfl⟩
  have d5:decide ((410:Int)<(t.below.length:Int))=false:=yv (by omega);have H5:=yK h5;clear h5;go_wp2_with fail
  go_meet
  case rel=>exact⟨false,rfl,yK ⟨λ _=>⟨H1.out,H2.out,H3.out,H4.out,H5.out⟩,λ _=>rfl⟩,rfl⟩
 case rest =>
  obtain⟨r,rfl,HR,rfl⟩:=hcut;clear e0 e2 e3 e4
  cases r with
  | true =>
   have HN:Hid (¬ zd2 t):=yK λ h=>by have:=HR.out.2 h;cases this
   clear HR e1;go_wp2_with fail;go_ret;exact⟨true,rfl,⟨λ h=>(by cases h),λ h=>absurd h.1 HN.out⟩,HB.out⟩
  | false =>
   have HS:=yK (HR.out.1 rfl);clear HR;have hkl:t.kinds.length≤10:=HS.out.2.1;go_wp2_with fail;go_loopw [3] (λ z wq=>∃ i:Nat,i≤t.kinds.length∧z=.int .i64 i∧wq=wc∧Hid (∀ (j:Nat) (s:List Q),j<i→t.kinds[j]?=some s→s.length≤20)) (λ z _=>t.kinds.length-(intOf z).toNat)
   case atStart=>exact⟨0,YC _,rfl,rfl,yK λ j s hj=>absurd hj (by omega)⟩
   obtain⟨i,hi,rfl,rfl,HI⟩:=hrel;by_cases hlt:i<t.kinds.length
   case pos =>
    obtain⟨s,hs⟩:∃ s,t.kinds[i]?=some s:=⟨_,yb hlt⟩;obtain⟨ka,sv,rfl,hks,hsv⟩:=HK.out.at hs;obtain⟨sp,sc,rfl⟩:=hsv.slice;have HSI:=yK hs;clear hs hsv;by_cases h20:s.length≤20
    case pos =>
     have hd:decide ((20:Int)<(s.length:Int))=false:=yv (by omega);have H20:=yK h20;clear h20;go_wp2_with fail
     go_roundw
     case rel=>exact⟨i+1,by omega,by go_num,trivial,yK λ j m hj hm=>by
      rcases (by omega:j<i∨j=i)with h|rfl
      ·exact HI.out j m h hm
      rw[HSI.out]at hm;cases hm;exact H20.out⟩
     case measure=>simp[intOf];omega
    have hd:decide ((20:Int)<(s.length:Int))=true:=yw (by omega);have H20:=yK h20;clear h20;go_wp2_with fail;go_ret;exact⟨true,rfl,⟨λ h=>(by cases h),λ h=>absurd (h.2 s (yg HSI.out)) H20.out⟩,HB.out⟩
   obtain rfl:i=t.kinds.length:=(by omega);go_wp2_with fail;go_ret;exact⟨false,rfl,⟨λ _=>⟨HS.out,λ m hm=>by
    obtain⟨j,hj⟩:=yV hm;exact HI.out j m (yc.1 hj).1 hj⟩,λ _=>rfl⟩,HB.out⟩
structure FamJ (F:Nat→(Nat→Value)→World→Prop) (dead reads:Nat→List Nat) (B:(Nat→Bool)→World→Prop) (L:Nat→Bool) (vals:Nat→Value) (W:World):Prop where
 base:B L W
 each:∀ i,L i=true→(∀ j∈reads i,L j=true)∧((∀ j∈dead i,L j=false)→F i vals W)
section
variable {F:Nat→(Nat→Value)→World→Prop} {dead reads:Nat→List Nat} {B:(Nat→Bool)→World→Prop} {L:Nat→Bool} {vals:Nat→Value} {W W':World}
theorem FamJ.start (h:B (λ _=>false) W) (v:Nat→Value):FamJ F dead reads B (λ _=>false) v W:=⟨h,λ i h=>by simp at h⟩
theorem FamJ.get (h:FamJ F dead reads B L vals W) (i:Nat) (hi:L i=true) (hd:∀ j∈dead i,L j=false):F i vals W:=(h.each i hi).2 hd
theorem FamJ.step (h:FamJ F dead reads B L vals W) (hR:∀ i v v' W,(∀ j,(j=i∨j∈reads i)→v j=v' j)→F i v W→F i v' W) {i:Nat} {v:Value} (hi:L i=false) (hr:∀ j∈reads i,L j=true) (hB:B (λ j=>L j||j==i) W')
  (hv:F i (λ j=>if j=i then v else vals j) W') (hk:∀ k,L k=true→(∀ j∈dead k,(L j||j==i)=false)→F k vals W→F k vals W'):FamJ F dead reads B (λ j=>L j||j==i) (λ j=>if j=i then v else vals j) W':=by
 refine⟨hB,λ k hkL=>?_⟩;by_cases e:k=i
 ·subst e;exact⟨λ j hj=>by simp[hr j hj],λ _=>hv⟩
 ·have hkL':L k=true:=by simpa[e]using hkL
  obtain⟨h1,h2⟩:=h.each k hkL';refine⟨λ j hj=>by simp[h1 j hj],λ hd=>?_⟩;have hd':∀ j∈dead k,L j=false:=λ j hj=>by have:=hd j hj;simp at this;exact this.1
  refine hR k vals _ W' (λ j hj=>?_) (hk k hkL' hd (h2 hd'));have hji:j≠i:=by
   rcases hj with rfl|hj
   ·exact e
   intro e2;rw[e2]at hj;rw[h1 i hj]at hi;cases hi
  rw[Yz hji]
theorem FamJ.still (h:FamJ F dead reads B L vals W) (hR:∀ i v v' W,(∀ j,(j=i∨j∈reads i)→v j=v' j)→F i v W→F i v' W) (hBm:∀ L L' W,(∀ j,L j=true→L' j=true)→B L W→B L' W) {i:Nat} {v:Value} (hi:L i=false) (hr:∀ j∈reads i,L j=true)
  (hv:F i (λ j=>if j=i then v else vals j) W):FamJ F dead reads B (λ j=>L j||j==i) (λ j=>if j=i then v else vals j) W :=
 h.step hR hi hr (hBm L _ W (λ j hj=>by simp[hj]) h.base) hv (λ _ _ _ h=>h)
end
section
variable {P:Program}
theorem zdb {o:Oper} {T:TypeId} {b:Act} {W:World} {v:Value} {next:Value→World→Prop} (ho:o.op=.alloc T) (hz:(zeroValue T).run P W=.ok v W)
  (hn:next (.pointer (some ⟨W.heap.size,0,none⟩)) (W.alloc (.cells v.cells T))):loudUpon P next ((execOp b.eval o).run P W):=by
 refine qQ (v:=.pointer (some ⟨W.heap.size,0,none⟩)) (W':=W.alloc (.cells v.cells T)) ?_ hn;unfold execOp;simp[ho,Instr.alloc,yG,hz,newVar,newRow,Result.andThen]
theorem zbB {o:Oper} {T t:TypeId} {p u:Operand} {b:Act} {W:World} {g:Nat} {old cells:Array Value} {next:Value→World→Prop} (ho:o.op=.store T p u) (hp:b.eval p=.pointer (some ⟨g,0,none⟩)) (hu:b.eval u=.agg cells)
  (hg:W.heap[g]?=some (.cells old t (0,0))) (hi:(P.info? T).map (·.size)=some cells.size) (hold:old.size=cells.size) (h1:cells.all (·.oneCell')=true)
  (hn:next undef (W.setRow g cells)):loudUpon P next ((execOp b.eval o).run P W):=by
 refine zeN (W':=W.setRow g cells) ?_ hn;unfold execOp;simp only[ho,hp,hu,Instr.storeAt,Instr.sureAddr,yG,yH,yz,run_storeVar_row W g t T old cells hg hi hold h1]
end
theorem zeq {α:Type} (R:REnc α) (hn:0<R.n) {T:TypeId} (hT:Tryz.prog.underlying T=some (.slice R.ty)) (bytes:Nat) (hi:∃ (i:TypeInfo) (z:Value),Tryz.prog.info? R.ty=some i∧i.zero=some z∧z.cells.size=R.n∧i.size=R.n∧i.bytes=bytes) (hby:0<bytes∧bytes≤40)
  (hnil:∀ (W:World) (p:Option Addr) (c:Nat),(Builtin.append_ #[T,T] T #[.slice p 0 c,.slice none 0 0]).run Tryz.prog W=.ok (.slice p 0 c) W)
  {l:List α} (hl:l.length≤1000000) {base:Nat} {W:World} (hbase:base≤W.heap.size) {v:Value} (hv0:R.Own W base v []) (p:Option Addr) (c:Nat) (hv:R.Has W (.slice p l.length c) l) :
  ∃ vg W2,(Builtin.append_ #[T,T] T #[v,.slice p l.length c]).run Tryz.prog W=.ok vg W2∧R.Own W2 base vg l∧W.grownBy W2 v.ownBlock:=by
 obtain⟨i,z,hiQ,hzQ,hzs,hsQ,hbQ⟩:=hi;rcases hv with⟨h1,h2⟩|⟨a,cap,h1,h2,h3,h4⟩
 ·subst h2;simp only[yC,yN,true_and]at h1;obtain⟨rfl,rfl⟩:=h1;obtain⟨q,d,rfl⟩:=qg hv0;exact⟨_,_,hnil _ _ _,hv0,World.grownBy.refl _ _⟩
 ·simp only[yC,true_and]at h1;obtain⟨rfl,rfl⟩:=h1;have hb2:(0+l.length)*bytes≤140737488355328:=by
   rw[Nat.zero_add];have:l.length*bytes≤1000000*40:=Nat.mul_le_mul hl hby.2;omega
  obtain⟨v',W',hr,ho,hg,_,_⟩:=run_append_own_at (P:=Tryz.prog) W base T T R.ty i z R.n bytes hT hiQ hzQ hsQ hbQ hzs hn v 0 [] hv0 a l.length c (R.cells l) (R.cells_length l) (qbR hn h4) (λ u hu=>by obtain⟨x,_,hx⟩:=List.mem_flatMap.1 hu;exact R.one x u hx) (by simp only[maxLen];omega) hb2 hbase;exact⟨v',W',hr,by simpa[REnc.Own]using ho,hg⟩
theorem zex {l:List Int} (hl:l.length≤1000000) {base:Nat} {W:World} (hbase:base≤W.heap.size) {v:Value} (hv0:RI.Own W base v []) (p:Option Addr) (c:Nat) (hv:RI.Has W (.slice p l.length c) l) :
  ∃ vg W2,(Builtin.append_ #[30,30] 30 #[v,.slice p l.length c]).run Tryz.prog W=.ok vg W2∧RI.Own W2 base vg l∧W.grownBy W2 v.ownBlock :=
 zeq RI (by decide) underlying30 8 (zbV zcl rfl) (by decide) (λ W p c=>by cases p <;> simp[Builtin.append_,go_sem]) hl hbase hv0 p c hv
theorem zcD (W:World) (a:Addr) {i n c:Nat} (hi:i<n):(Instr.indexAt 96 (.slice (some a) n c) (.int .i64 i)).run Tryz.prog W=.ok (.pointer (some (a.add (i*16)))) W:=by
 have h1:(0:Int)≤i∧(i:Int)<n:=by omega
 simp[go_sem,h1]
theorem qfy {W:World} {a:Addr} {Ss:List HS} (h:RS.At W a Ss) {k:Nat} {S:HS} (hS:Ss[k]?=some S):(Instr.loadAt 105 (.pointer (some ((a.add (k*16)).add 5)))).run Tryz.prog W=.ok (w3V S.joint) W:=by
 have:=za0 (P:=Tryz.prog) W ((a.add (k*16)).add 5) 105 (qam S.joint) _ (λ j v hv=>by
  rw[qP];refine h.elem hS (5+j) v ?_
  match j,hv with
  | 0,hv=>exact hv
  | 1,hv=>exact hv
  | 2,hv=>exact hv
  | j+3,hv=>simp[qam]at hv) underlying105 rfl zbl
 simp only[Instr.loadAt,Instr.sureAddr,yG,yH,yz,this];rfl
theorem BelowBut.row {B b:Nat} {w W:World} (h:BelowBut B b w W) (cs:Array Value):BelowBut B b w (W.setRow b cs) :=
 ⟨h.os,h.tape,h.output,by simpa using h.size,λ k hk hn=>(setRow_other _ _ _ _ hn).trans (h.block k hk hn)⟩
def lyF (U:Value) (n vc k:Nat) (xa:Addr) (S:HS) (nl:List Ld) (ps:List Value) (ls:List (List Ld)) (B2 sz q:Nat):Nat→(Nat→Value)→World→Prop
 | 0,v,_=>v 0=U
 | 1,v,_=>v 1=.slice (some xa) n vc
 | 2,v,_=>v 2=.int .i64 k
 | 3,v,_=>v 3=.pointer (some (xa.add (k*16)))
 | 4,v,_=>v 4=.agg (hsVals S).toArray
 | 5,v,W=>RL.Own W sz (v 5) nl
 | 6,v,W=>∃ g,v 6=.slice (some ⟨g,0,none⟩) 1 1∧sz≤g∧W.heap[g]?=some (.cells ([v 5]:List Value).toArray 31 (0,0))
 | 7,v,W=>OwnLs RL 31 W B2 (v 7) (ps++[v 5]) (ls++[nl])
 | 8,v,_=>v 8=.slice (some xa) n vc
 | 9,v,_=>v 9=.int .i64 k
 | 10,v,_=>v 10=.pointer (some (xa.add (k*16)))
 | 11,v,_=>v 11=.pointer (some ((xa.add (k*16)).add 5))
 | 12,v,_=>v 12=w3V S.joint
 | 13,v,_=>v 13=v 7
 | 14,_,W=>W.heap[q]?=some (.cells (qam S.joint).toArray 105 (0,0))
 | _,_,_=>True
def lyR:Nat→List Nat
 | 6=>[5]
 | 7=>[5]
 | 13=>[7]
 | _=>[]
def lyD:Nat→List Nat
 | 5=>[7]
 | 6=>[7]
 | _=>[]
def lyB (w9:World) (U:Value) (ps:List Value) (ls:List (List Ld)) (old:Array Value) (B2 sz q:Nat) (L:Nat→Bool) (W:World):Prop :=
 BelowBut B2 q w9 W∧sz≤W.heap.size∧(L 7=false→OwnLs RL 31 W B2 U ps ls)∧(L 14=false→W.heap[q]?=some (.cells old 105 (0,0)))
theorem qd3 {w9:World} {U:Value} {ps:List Value} {ls:List (List Ld)} {old:Array Value} {B2 sz q:Nat}:∀ L L' W,(∀ j,L j=true→L' j=true)→lyB w9 U ps ls old B2 sz q L W→lyB w9 U ps ls old B2 sz q L' W:=by
 rintro L L' W h ⟨h1,h2,h3,h4⟩;refine⟨h1,h2,λ e=>h3 ?_,λ e=>h4 ?_⟩
 ·cases hl:L 7 with
  | false=>rfl
  | true=>rw[h 7 hl]at e;cases e
 cases hl:L 14 with
 | false=>rfl
 | true=>rw[h 14 hl]at e;cases e
theorem qec {w9:World} {U:Value} {ps:List Value} {ls:List (List Ld)} {old:Array Value} {B2 sz q:Nat} {L L':Nat→Bool} {W W':World} (h:lyB w9 U ps ls old B2 sz q L W) (hB2:B2≤sz) (hL:∀ j,L j=true→L' j=true) (e:Below W.heap.size W W'):lyB w9 U ps ls old B2 sz q L' W':=by
 obtain⟨h1,h2,h3,h4⟩:=qd3 L L' W hL h;refine⟨h1.trans (.of_below (e.mono (yJ hB2 h2))),yJ h2 e.size,λ hl=>(h3 hl).below e,λ hl=>(e.block _ (ya.1 (h4 hl)).1).trans (h4 hl)⟩
section
variable {U:Value} {n vc k:Nat} {xa:Addr} {S:HS} {nl:List Ld} {ps:List Value} {ls:List (List Ld)} {B2 sz q:Nat} {v:Nat→Value} {W W':World}
theorem zfV:∀ i v v' W,(∀ j,(j=i∨j∈lyR i)→v j=v' j)→lyF U n vc k xa S nl ps ls B2 sz q i v W→lyF U n vc k xa S nl ps ls B2 sz q i v' W:=by
 intro i v v' W h hF;have hi:=h i (.inl rfl)
 match i,h,hi,hF with
 | 0,_,hi,hF|1,_,hi,hF|2,_,hi,hF|3,_,hi,hF|4,_,hi,hF|5,_,hi,hF|8,_,hi,hF|9,_,hi,hF|10,_,hi,hF|11,_,hi,hF|12,_,hi,hF =>
  simp only[lyF]at hF ⊢;rw[← hi];exact hF
 | 6,h,hi,hF|7,h,hi,hF =>
  simp only[lyF]at hF ⊢;rw[← hi,← h 5 (.inr (by simp[lyR]))];exact hF
 | 13,h,hi,hF =>
  simp only[lyF]at hF ⊢;rw[← hi,← h 7 (.inr (by simp[lyR]))];exact hF
 | 14,_,_,hF=>exact hF
 | n+15,_,_,_=>trivial
theorem qeo (hB:Below W.heap.size W W'):∀ {i},lyF U n vc k xa S nl ps ls B2 sz q i v W→lyF U n vc k xa S nl ps ls B2 sz q i v W':=by
 intro i hF
 match i,hF with
 | 0,hF|1,hF|2,hF|3,hF|4,hF|8,hF|9,hF|10,hF|11,hF|12,hF|13,hF=>exact hF
 | 5,hF=>exact qf hF hB
 | 6,hF =>
  obtain⟨g,h1,h2,h3⟩:=hF;exact⟨g,h1,h2,(hB.block _ (ya.1 h3).1).trans h3⟩
 | 7,hF=>exact OwnLs.below hF hB
 | 14,hF=>exact (hB.block _ (ya.1 hF).1).trans hF
 | n+15,_=>trivial
theorem qg7:∀ {i},i≠5→i≠6→i≠7→i≠14→lyF U n vc k xa S nl ps ls B2 sz q i v W→lyF U n vc k xa S nl ps ls B2 sz q i v W':=by
 intro i h5 h6 h7 h14 hF
 match i,h5,h6,h7,h14,hF with
 | 0,_,_,_,_,hF|1,_,_,_,_,hF|2,_,_,_,_,hF|3,_,_,_,_,hF|4,_,_,_,_,hF|8,_,_,_,_,hF|9,_,_,_,_,hF|10,_,_,_,_,hF|11,_,_,_,_,hF|12,_,_,_,_,hF|13,_,_,_,_,hF=>exact hF
 | 5,h,_,_,_,_=>exact absurd rfl h
 | 6,_,h,_,_,_=>exact absurd rfl h
 | 7,_,_,h,_,_=>exact absurd rfl h
 | 14,_,_,_,h,_=>exact absurd rfl h
 | n+15,_,_,_,_,_=>trivial
theorem qhk (hq:q<B2) (hB2:B2≤sz) (cs:Array Value):∀ {i},i≠14→lyF U n vc k xa S nl ps ls B2 sz q i v W→lyF U n vc k xa S nl ps ls B2 sz q i v (W.setRow q cs):=by
 intro i h14 hF
 match i,h14,hF with
 | 0,_,hF|1,_,hF|2,_,hF|3,_,hF|4,_,hF|8,_,hF|9,_,hF|10,_,hF|11,_,hF|12,_,hF|13,_,hF=>exact hF
 | 5,_,hF=>exact zi hF λ k hk=>setRow_other _ _ _ _ (by have:=(zf hF hk).1;omega)
 | 6,_,hF =>
  obtain⟨g,h1,h2,h3⟩:=hF;exact⟨g,h1,h2,(setRow_other _ _ _ _ (by omega)).trans h3⟩
 | 7,_,hF=>exact OwnLs.move hF λ k hk _=>setRow_other _ _ _ _ (by omega)
 | 14,h,_=>exact absurd rfl h
 | n+15,_,_=>trivial
end
end Go.Proofs.YtiinlplgloaanaaGreatDoor
