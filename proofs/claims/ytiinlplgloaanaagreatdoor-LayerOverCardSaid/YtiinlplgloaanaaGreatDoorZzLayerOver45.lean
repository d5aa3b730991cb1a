/- A drawn region under a family of facts, one for each operation that is done. -/
import Derived.Test.YtiinlplgloaanaaGreatDoorZzLayerOver44
set_option linter.all false
set_option maxRecDepth 100000
set_option maxHeartbeats 8000000
namespace Go.Proofs.YtiinlplgloaanaaGreatDoor
open Go.Proofs.Tryz Go.RowKit
attribute [local go_sem] Oper.semAt_some
def WhyPost (t:Tk) (w:World) (e:Ending) (w':World):Prop:=∃ r code:Nat,e=.returned (.tuple #[.int .i64 r,.int .i64 code])/\Bw w w'/\(OkT t->(r,code)=whyT t)/\(¬ OkT t->r=0/\code=2)
theorem zh6 {t:Tk} (w:World) (vg vk vc vf vb:Value) (hg:HasQ w vg t.ground) (hk:HasQQ w vk t.kinds) (hc:RI.Has w vc t.counts) (hcf:flatV vc) (hf:RL.Has w vf t.fixed) (hb:RE.Has w vb t.below) (hcl:t.counts.length<=1000) (hbl:t.below.length<=1000000) (htb:TbAt w) :
  Calls Tryz.prog 24 #[.agg #[vg,vk,vc,vf,vb]] w (WhyPost t w):=by
 obtain⟨gp,gc,rfl⟩:=hg.slice;obtain⟨kp,kc,rfl⟩:=hk.slice;obtain⟨cp,cc,rfl⟩:=hc.slice;obtain⟨fp,fc,rfl⟩:=hf.slice;obtain⟨bp,bc,rfl⟩:=hb.slice;have q:Hid (∀ W,Bw w W->Calls Tryz.prog 13 #[.agg #[.slice gp t.ground.length gc,.slice kp t.kinds.length kc,.slice cp t.counts.length cc,.slice fp t.fixed.length fc,.slice bp t.below.length bc]] W (CkPost t W)):=yK
  λ W h=>qau W _ _ _ _ _ (hg.below h) (hk.below h) (hc.below h) (hf.below h) (hb.below h) hcl hbl
 have O:Hid (∀ W,Bw w W->OkT t->Calls Tryz.prog 37 #[.agg #[.slice gp t.ground.length gc,.slice kp t.kinds.length kc,.slice cp t.counts.length cc,.slice fp t.fixed.length fc,.slice bp t.below.length bc]] W λ e w'=>∃ (bb:Nat) (bv:BV) (L:List E),e=.returned (.pointer (some ⟨bb,0,none⟩))/\W.heap.size<=bb/\BdAt w' bb bv t L (pcsT t L) (belT t L)/\LOk t.ground L/\Bw W w'):=yK
  λ W h ho=>zcs ho W _ _ _ _ _ (hg.below h) (hk.below h) (hc.below h) hcf (hf.below h) (hb.below h)
 have A0:=yK htb;clear htb hg hk hc hf hb hcf;go_enter func24,ntmps24;go_wp2_with fail;have hT:=yd w (.cells #[.slice gp t.ground.length gc,.slice kp t.kinds.length kc,.slice cp t.counts.length cc,.slice fp t.fixed.length fc,.slice bp t.below.length bc] 34);have hB:Bw w (w.alloc (.cells #[.slice gp t.ground.length gc,.slice kp t.kinds.length kc,.slice cp t.counts.length cc,.slice fp t.fixed.length fc,.slice bp t.below.length bc] 34)):=(yf _ w).alloc (ye _) _;revert hT hB;generalize w.alloc (.cells #[.slice gp t.ground.length gc,.slice kp t.kinds.length kc,.slice cp t.counts.length cc,.slice fp t.fixed.length fc,.slice bp t.below.length bc] 34)=w1;intro hT hB;have HB:=yK hB;clear hB;have d:=(ya.1 hT).1;refine (q.o w1 HB.o).mono ?_;rintro e w2 ⟨C,rfl,h0,h2,U⟩;have m:=(U.block _ d).trans hT;have V:=yK (HB.o.tm U);clear U HB d;have A:∀ j,w2.cell? ⟨w.heap.size,j,none⟩=(#[.slice gp t.ground.length gc,.slice kp t.kinds.length kc,.slice cp t.counts.length cc,.slice fp t.fixed.length fc,.slice bp t.below.length bc]:Array Value)[j]?:=λ j=>by simp only[World.cell?,m];simp
 have c0:=A 0;have c1:=A 1;have c2:=A 2;have c3:=A 3;have c4:=A 4;simp at c0 c1 c2 c3 c4;clear A hT q m;rcases h2 with rfl|rfl
 case inr =>
  have HN:Hid (¬ OkT t):=yK λ h=>absurd (h0.2 h) (by decide);clear O h0 c0 c1 c2 c3 c4;go_wp2_with fail;go_ret2;exact⟨0,2,rfl,V.o,λ h=>absurd h HN.o,λ _=>⟨rfl,rfl⟩⟩
 case inl =>
  have B:Hid (OkT t):=yK (h0.1 rfl);have HL:=yK (O.o w2 V.o B.o);clear O h0;go_wp2_with fail;refine HL.o.mono ?_;rintro e w3 ⟨bb,bv,L,rfl,A1,P,H,x⟩;have A2:=yK (V.o.tm x);clear x HL;have M:=yK H;clear H;have p:=yK P;have g:=yK (zba (qR B.o M.o) w3 bb bv P);clear P c0 c1 c2 c3 c4 A1;go_wp2_with fail;refine g.o.mono ?_;rintro e w4 ⟨S,b,rfl,K,n,Y⟩;have J:=yK (p.o.keep Y);have y:=yK (A2.o.tm Y);have HY:Hid (b=true->∃ s,rootT t=some s):=yK λ h=>(K h).imp λ s hs=>hs.1;have c:=yK n;clear g p Y K n;have l:(Tryz.prog.info? 108).map (·.size)=some (hsVals S).toArray.size:=sizeS;have I:(hsVals S).toArray.all (·.oneCell')=true:=by simp[hsVals,Value.oneCell']
  have N:Bw w4 (w4.alloc (.cells (hsVals S).toArray 108)):=(yf _ w4).alloc (ye _) _;have F:=yK (y.o.tm N);have D:=yK (J.o.keep N);clear N J;go_upto_region 6 with (refine wpList_store_row rfl 108 _ _ rfl w4.heap.size rfl 108 _ (hsVals S).toArray rfl (yd w4 _) l rfl I ?_;rw[World.setRow_alloc_new]);clear l I;revert F D;change _->_->Code.wp _ _ _ _ (w4.alloc (.cells (hsVals S).toArray 108));generalize w4.alloc (.cells (hsVals S).toArray 108)=w5;intro F D
  cases b with
  | false =>
   have HW:Hid (whyT t=(1,0)):=yK (by unfold whyT;rw[c.o rfl]);clear HY c;go_wp2_with fail;go_ret2;exact⟨1,0,rfl,F.o,λ _=>HW.o.symm,λ h=>absurd B.o h⟩
  | true =>
   obtain⟨s,hs⟩:=HY.o rfl;have HS:=yK hs;have i:=yK (fits_any w5 bb bv t L _ _ D.o B.o);have G:=yK (qaN B.o (qR B.o M.o) w5 bb bv D.o (A0.o.below F.o) λ W' hb' _=>zba (qR B.o M.o) W' bb bv hb');have f:=yK (zaz t);clear HY c hs;go_wp2_with fail;refine i.o.mono ?_;rintro e w6 ⟨rfl,rfl⟩;obtain⟨ft,X⟩:∃ ft,fitsT t=ft:=⟨_,rfl⟩;rw[X];have Z:=yK X;clear X i
   cases ft with
   | false =>
    have HW:Hid (whyT t=(2,0)):=yK (by unfold whyT;rw[HS.o];simp only[Z.o];rfl);clear G;go_wp2_with fail;go_ret2;exact⟨2,0,rfl,F.o,λ _=>HW.o.symm,λ h=>absurd B.o h⟩
   | true =>
    have HW:Hid (whyT t=if (tilingsT t).2.2≠0 then (0,(tilingsT t).2.2)else if (tilingsT t).1≠[]then (0,9)else (3,0)):=yK (by unfold whyT;rw[HS.o];simp only[Z.o,if_true]);clear HS Z;revert G HW f;generalize tilingsT t=R;obtain⟨Ts,nn,C⟩:=R;simp only;intro f G HW;obtain⟨wt,z⟩:∃ wt,whyT t=wt:=⟨_,rfl⟩;go_wp2_with fail;refine G.o.mono ?_;rintro e w7 ⟨v,rfl,r,k⟩;obtain⟨vp,vc,rfl⟩:=r.slice;have a:=yK (F.o.tm k);clear r k G z;by_cases hcz:C=0
    case neg =>
     have hb:((C:Int) != 0)=true:=(by simpa using hcz);have HX:Hid (whyT t=(0,C)):=yK (by rw[HW.o,YA hcz]);clear HW;go_wp2_with fail;go_ret2;exact⟨0,C,rfl,a.o,λ _=>HX.o.symm,λ h=>absurd B.o h⟩
    subst hcz
    cases Ts with
    | nil =>
     have HX:Hid (whyT t=(3,0)):=yK (by rw[HW.o];rfl);clear HW;go_wp2_with fail;go_ret2;exact⟨3,0,rfl,a.o,λ _=>HX.o.symm,λ h=>absurd B.o h⟩
    | cons T Ts =>
     have HX:Hid (whyT t=(0,9)):=yK (by rw[HW.o];rfl);have A4:decide ((0:Int)<((T :: Ts).length:Int))=true:=yw (by simp);have A3:(0:Int)<((T :: Ts).length:Int):=(by simp);clear HW;go_wp2_with fail;go_ret2;exact⟨0,9,rfl,a.o,λ _=>HX.o.symm,λ h=>absurd B.o h⟩
theorem qd7 {α:Type} (R:REnc α) (hn:0<R.n) {T:TypeId} (hT:Tryz.prog.underlying T=some (.slice R.ty)) (bytes:Nat) (hi:∃ (i:TypeInfo) (z:Value),Tryz.prog.info? R.ty=some i/\i.zero=some z/\z.cells.size=R.n/\i.size=R.n/\i.bytes=bytes) (hby:0<bytes/\bytes<=40)
  (hnil:∀ (W:World) (b:Nat),(Builtin.append_ #[T,T] T #[.slice (some ⟨b,0,none⟩) 0 0,.slice none 0 0]).run Tryz.prog W=.ok (.slice (some ⟨b,0,none⟩) 0 0) W)
  {l:List α} (hl:l.length<=1000000) (W:World) (p:Option Addr) (c:Nat) (hv:R.Has W (.slice p l.length c) l) :
  ∃ vg W2,(Builtin.append_ #[T,T] T #[.slice (some ⟨W.heap.size,0,none⟩) 0 0,.slice p l.length c]).run Tryz.prog (W.alloc (.cells #[] R.ty))=.ok vg W2/\R.Own W2 W.heap.size vg l/\Bw W W2:=by
 obtain⟨i,z,G,H,I,F,C⟩:=hi;have A:(W.alloc (.cells #[] R.ty)).ownsRow W.heap.size R.ty R.n (.slice (some ⟨W.heap.size,0,none⟩) 0 0) 0 []:=⟨by simp,.inr ⟨W.heap.size,0,#[],rfl,ye _,yd W _,ye _,by decide,by simp,by simp⟩⟩;have B:Bw W (W.alloc (.cells #[] R.ty)):=(yf _ W).alloc (ye _) _;rcases hv with⟨h1,h2⟩|⟨a,cap,h1,h2,h3,h4⟩
 ·subst h2;simp only[yC,yN,true_and]at h1;obtain⟨rfl,rfl⟩:=h1;exact⟨_,_,hnil _ _,A,B⟩
 ·simp only[yC,true_and]at h1;obtain⟨rfl,rfl⟩:=h1;have D:(0+l.length)*bytes<=140737488355328:=by
   rw[Nat.zero_add];have:l.length*bytes<=1000000*40:=Nat.mul_le_mul hl hby.2;omega
  obtain⟨v',W',hr,ho,hg,_,_⟩:=run_append_own_at (P:=Tryz.prog) (W.alloc (.cells #[] R.ty)) W.heap.size T T R.ty i z R.n bytes hT G H F C I hn (.slice (some ⟨W.heap.size,0,none⟩) 0 0) 0 [] A a l.length c (R.cells l) (R.cells_length l) (qci hn (h4.below B)) (λ u hu=>by obtain⟨x,_,hx⟩:=List.mem_flatMap.1 hu;exact R.one x u hx) (by simp only[maxLen];omega) D (by rw[yp];omega);exact⟨v',W',hr,by simpa[REnc.Own]using ho,B.grown hg (by rw[yp];omega) λ b e=>by simp only[Value.ownBlock,yo]at e;omega⟩
theorem qdf {T:TypeId} {z:Value} {n b:Nat} (h:(Tryz.prog.info? T).map (λ i=>(i.zero,i.size,i.bytes))=some (some z,n,b)) (hz:z.cells.size=n):∃ (i:TypeInfo) (z:Value),Tryz.prog.info? T=some i/\i.zero=some z/\z.cells.size=n/\i.size=n/\i.bytes=b:=by
 obtain⟨i,h1,h2,h3,h4⟩:=info_parts h;exact⟨i,z,h1,h2,hz,h3,h4⟩
theorem zgC {l:List Ld} (hl:l.length<=1000000) (W:World) (p:Option Addr) (c:Nat) (hv:RL.Has W (.slice p l.length c) l) :
  ∃ vg W2,(Builtin.append_ #[31,31] 31 #[.slice (some ⟨W.heap.size,0,none⟩) 0 0,.slice p l.length c]).run Tryz.prog (W.alloc (.cells #[] 50))=.ok vg W2/\RL.Own W2 W.heap.size vg l/\Bw W W2 :=
 qd7 RL (by decide) underlying31 40 (qdf infoLd rfl) (by decide) (λ W b=>by simp[Builtin.append_,go_sem]) hl W p c hv
theorem zfx {l:List E} (hl:l.length<=1000000) (W:World) (p:Option Addr) (c:Nat) (hv:RE.Has W (.slice p l.length c) l) :
  ∃ vg W2,(Builtin.append_ #[32,32] 32 #[.slice (some ⟨W.heap.size,0,none⟩) 0 0,.slice p l.length c]).run Tryz.prog (W.alloc (.cells #[] 61))=.ok vg W2/\RE.Own W2 W.heap.size vg l/\Bw W W2 :=
 qd7 RE (by decide) underlying32 24 (qdf infoE rfl) (by decide) (λ W b=>by simp[Builtin.append_,go_sem]) hl W p c hv
theorem qbt {g:List Q} (hl:g.length*24<=140737488351232) (v:Value) (w:World) (hv:HasQ w v g) :
  Calls Tryz.prog 31 #[v] w λ e w'=>∃ u,e=.returned u/\OwnQ w' w.heap.size u g/\Bw w w':=by
 obtain⟨p,c,rfl⟩:=hv.slice;obtain⟨vg,W2,hap,hog,hb⟩:=zef hl w p c hv;have HAP:=yK hap;clear hap hv;have HO:=yK (And.intro hog hb);clear hog hb;go_enter func31,ntmps31;go_wp2_with (first|(at_builtin;refine zaS rfl _ _ 22 rfl rfl rfl HAP.o ?_));go_ret;exact⟨vg,rfl,HO.o.1,HO.o.2⟩
theorem qdX {l:List Ld} (hl:l.length<=1000000) (v:Value) (w:World) (hv:RL.Has w v l) :
  Calls Tryz.prog 26 #[v] w λ e w'=>∃ u,e=.returned u/\RL.Own w' w.heap.size u l/\Bw w w':=by
 obtain⟨p,c,rfl⟩:=hv.slice;obtain⟨vg,W2,hap,hog,hb⟩:=zgC hl w p c hv;have HAP:=yK hap;clear hap hv;have HO:=yK (And.intro hog hb);clear hog hb;go_enter func26,ntmps26;go_wp2_with (first|(at_builtin;refine zaS rfl _ _ 31 rfl rfl rfl HAP.o ?_));go_ret;exact⟨vg,rfl,HO.o.1,HO.o.2⟩
theorem zfX {l:List E} (hl:l.length<=1000000) (v:Value) (w:World) (hv:RE.Has w v l) :
  Calls Tryz.prog 64 #[v] w λ e w'=>∃ u,e=.returned u/\RE.Own w' w.heap.size u l/\Bw w w':=by
 obtain⟨p,c,rfl⟩:=hv.slice;obtain⟨vg,W2,hap,hog,hb⟩:=zfx hl w p c hv;have HAP:=yK hap;clear hap hv;have HO:=yK (And.intro hog hb);clear hog hb;go_enter func64,ntmps64;go_wp2_with (first|(at_builtin;refine zaS rfl _ _ 32 rfl rfl rfl HAP.o ?_));go_ret;exact⟨vg,rfl,HO.o.1,HO.o.2⟩
def zcu (x y:Nat):List Q:=(List.range 4).map λ (s:Nat)=>(⟨(x:Int),(y:Int),(s:Int)⟩:Q)
def zei (W y:Nat):List Q:=(List.range W).flatMap λ x=>zcu x y
def cellsP (W y x s:Nat):List Q:=((List.range y).flatMap λ y=>zei W y)++((List.range x).flatMap λ x=>zcu x y)++(List.range s).map λ (s:Nat)=>(⟨(x:Int),(y:Int),(s:Int)⟩:Q)
def zC (W H:Nat):List Q:=(List.range H).flatMap λ y=>zei W y
theorem zhy (W y x s:Nat):cellsP W y x (s+1)=cellsP W y x s++[⟨(x:Int),(y:Int),(s:Int)⟩]:=by
 unfold cellsP;rw[Yl (n:=s),Ym,<- List.append_assoc];rfl
theorem zg8 (W y x:Nat):cellsP W y x 4=cellsP W y (x+1) 0:=by
 unfold cellsP;rw[Yl (n:=x),List.flatMap_append];simp[zcu]
theorem qhD (W y:Nat):cellsP W y W 0=cellsP W (y+1) 0 0:=by
 unfold cellsP;rw[Yl (n:=y),List.flatMap_append];simp[zei]
theorem qf2 (W H:Nat):cellsP W H 0 0=zC W H:=by
 unfold cellsP zC;simp
theorem qdz (x y:Nat):(zcu x y).length=4:=by simp[zcu]
theorem zcc {α:Type} {f:Nat->List α} {c:Nat} (h:∀ i,(f i).length=c) (n:Nat):((List.range n).flatMap f).length=n*c:=by
 induction n with
 | zero=>simp
 | succ n ih=>rw[Yl,List.flatMap_append,yL,ih];simp[h,Nat.succ_mul]
theorem qfA (W y x s:Nat):(cellsP W y x s).length=y*(W*4)+x*4+s:=by
 unfold cellsP;rw[yL,yL,zcc (c:=W*4) (λ i=>by unfold zei;exact zcc (λ j=>qdz j i) W),zcc (λ j=>qdz j y)];simp
theorem qb3 (W H:Nat) (hW:W<=8) (hH:H<=8) (w:World) :
  Calls Tryz.prog 63 #[.int .i64 W,.int .i64 H] w λ e w'=>∃ u,e=.returned u/\OwnQ w' w.heap.size u (zC W H)/\Bw w w':=by
 have J:Bw w (w.alloc (.cells #[] 56)):=(yf _ w).alloc (ye _) _;have B:OwnQ (w.alloc (.cells #[] 56)) w.heap.size (.slice (some ⟨w.heap.size,0,none⟩) 0 0) (cellsP W 0 0 0):=⟨rfl,.inr ⟨w.heap.size,0,#[],rfl,ye _,yd w _,ye _,by decide,rfl,rfl⟩⟩;have H0:=yK (And.intro B J);clear J B;go_enter func63,ntmps63;go_wp2_with fail;revert H0;generalize w.alloc (.cells #[] 56)=w1;intro H0;go_loopw [5,6] (λ u z wr=>∃ y:Nat,y<=H/\z=.int .i64 y/\Hid (OwnQ wr w.heap.size u (cellsP W y 0 0)/\Bw w wr)) (λ _ z _=>H-(intOf z).toNat)
 case atStart=>exact⟨0,YC _,rfl,H0⟩
 case round =>
  clear H0;obtain⟨y,hy,rfl,HR⟩:=hrel;by_cases hlt:y<H
  case neg =>
   obtain rfl:y=H:=(by omega);go_wp2_with fail;go_ret;exact⟨_,rfl,by rw[<- qf2];exact HR.o.1,HR.o.2⟩
  go_wp2_with fail;go_loopw [5,7] (λ u z wq=>∃ x:Nat,x<=W/\z=.int .i64 x/\Hid (OwnQ wq w.heap.size u (cellsP W y x 0)/\Bw w wq)) (λ _ z _=>W-(intOf z).toNat)
  case atStart=>exact⟨0,YC _,rfl,HR⟩
  clear HR;obtain⟨x,hx,rfl,HR⟩:=hrel;by_cases hlx:x<W
  case neg =>
   obtain rfl:x=W:=(by omega);go_wp2_with fail
   go_roundw
   case rel=>exact⟨y+1,by omega,by go_num,yK ⟨by rw[<- qhD];exact HR.o.1,HR.o.2⟩⟩
   case measure=>simp only[intOf];omega
  go_wp2_with fail;go_loopw [5,8] (λ u z wq=>∃ s:Nat,s<=4/\z=.int .i64 s/\Hid (OwnQ wq w.heap.size u (cellsP W y x s)/\Bw w wq)) (λ _ z _=>4-(intOf z).toNat)
  case atStart=>exact⟨0,YC _,rfl,HR⟩
  clear HR;obtain⟨s,hs,rfl,HR⟩:=hrel;by_cases hls:s<4
  case neg =>
   obtain rfl:s=4:=(by omega);go_wp2_with fail
   go_roundw
   case rel=>exact⟨x+1,by omega,by go_num,yK ⟨by rw[<- zg8];exact HR.o.1,HR.o.2⟩⟩
   case measure=>simp only[intOf];omega
  obtain⟨up,uc,rfl⟩:=zf HR.o.1;have N:(cellsP W y x s).length<=1000:=by
   rw[qfA];have:y*(W*4)<=8*(8*4):=Nat.mul_le_mul (by omega) (by omega);omega
  have D:=zhy W y x s;obtain⟨ls,C⟩:∃ ls,cellsP W y x s=ls:=⟨_,rfl⟩;rw[C]at HR N D ⊢;have S:=yK D;clear D C;have F:=yK HR.o.2.size;obtain⟨iQ,G,I,A,K⟩:=info_parts infoQ;have R:Hid (ls.length+1<=maxLen):=yK (by simp only[maxLen];omega);have M:Hid ((ls.length+1)*24<=140737488355328):=yK (by omega);have L:=yK (zI (cs:=qVals ⟨(x:Int),(y:Int),(s:Int)⟩) (yd wr (.cells (qVals ⟨(x:Int),(y:Int),(s:Int)⟩).toArray 56)));go_wp2_with (first
   | (refine qbm rfl _ rfl rfl underlying22 G I (by rw[A];decide) (by rw[A];decide) (cells:=(qVals ⟨(x:Int),(y:Int),(s:Int)⟩).toArray) (by rw[A];exact zim ⟨(x:Int),(y:Int),(s:Int)⟩) ?_)
   | (at_builtin;refine wpList_append_own_at (P:=Tryz.prog) _ rfl _ _ 22 rfl w.heap.size 56 iQ _ 3 24 underlying22 G I A K rfl (by decide) (.slice up ls.length uc) ls.length (qCells ls) rfl (qf HR.o.1 ((yf _ wr).alloc (ye _) _)) ⟨wr.heap.size,0,none⟩ 1 1 (qVals ⟨(x:Int),(y:Int),(s:Int)⟩) rfl rfl L.o (qav _) R.o M.o (by rw[yp];have:=F.o;omega) ?_;intro v' w7 hown' hgrow _ hat;obtain⟨p',c',rfl⟩:=zf hown'))
  have O:Bw w w7:=(HR.o.2.alloc HR.o.2.size _).grown hgrow (by rw[yp];have:=F.o;omega) λ b e=>(qg HR.o.1 e).1;refine⟨⟨s+1,by omega,by go_num,yK ⟨?_,O⟩⟩,by simp only[intOf];omega⟩;rw[S.o];unfold OwnQ;rw[zan,yL];exact hown'
theorem zfU (a b:List Int) (va vb:Value) (w:World) (ha:RI.Has w va a) (hb:RI.Has w vb b) (hl:a.length<=1000000) :
  Calls Tryz.prog 67 #[va,vb] w λ e w'=>∃ r:Bool,e=.returned (.bool r)/\(r=true↔a=b)/\Bw w w':=by
 obtain⟨pa,ca,rfl⟩:=ha.slice;obtain⟨pb,cb,rfl⟩:=hb.slice;have HA:=yK ha;clear ha;have HB:=yK hb;clear hb;by_cases hlen:a.length=b.length
 case neg =>
  have hd:((a.length:Int)==(b.length:Int))=false:=by simp only[Yt,ne_eq];omega
  have HN:=yK hlen;clear hlen;go_enter func67,ntmps67;go_wp2_with fail;go_ret;exact⟨false,rfl,⟨λ h=>(by cases h),λ h=>absurd (YB List.length h) HN.o⟩,yf _ _⟩
 case pos =>
  have hd:((a.length:Int)==(b.length:Int))=true:=by rw[hlen];exact beq_self_eq_true _
  have HN:=yK hlen;clear hlen;go_enter func67,ntmps67;go_wp2_with fail;clear hd;go_loopw [5] (λ z wr=>∃ i:Nat,i<=a.length/\z=.int .i64 i/\Hid (Bw w wr/\∀ j:Nat,j<i->a[j]?=b[j]?)) (λ z _=>a.length-(intOf z).toNat)
  case atStart=>exact⟨0,by omega,rfl,yK ⟨yf _ _,λ j hj=>absurd hj (by omega)⟩⟩
  obtain⟨i,hi,rfl,HR⟩:=hrel;by_cases hlt:i<a.length
  case neg =>
   obtain rfl:i=a.length:=(by omega);go_wp2_with fail;go_ret;refine⟨true,rfl,⟨λ _=>List.ext_getElem? λ j=>?_,λ _=>rfl⟩,HR.o.1⟩;rcases Nat.lt_or_ge j a.length with h|h
   ·exact HR.o.2 j h
   rw[List.getElem?_eq_none h,List.getElem?_eq_none (by rw[<- HN.o];exact h)]
  obtain⟨p,hp⟩:∃ p,a[i]?=some p:=⟨_,yb hlt⟩;obtain⟨q,hq⟩:∃ q,b[i]?=some q:=⟨_,yb (by rw[<- HN.o];exact hlt)⟩;obtain⟨xa,rfl,D⟩:=(HA.o.below HR.o.1).at_ (by rintro e;rw[e]at hp;simp at hp);obtain⟨xb,rfl,F⟩:=(HB.o.below HR.o.1).at_ (by rintro e;rw[e]at hq;simp at hq);have c0:=RI.at_cell D hp;have c1:=RI.at_cell F hq;have A:=yK (And.intro hp hq);clear hp hq D F;have H:(i:Int)<(b.length:Int):=by have:=HN.o;omega
  by_cases hpq:p=q
  case neg =>
   have hd:(p==q)=false:=(by simp only[Yt,ne_eq];exact hpq);have G:=yK hpq;clear hpq;go_upto_region 6 with fail;refine zt 9 (by kernel_rfl) (by kernel_rfl) ?_;simp only[yh,yj,yi,yl]
   repeat (go_big_quiet_step (fail))
   refine wpQuiet_nil ?_;intro nq;have B:=yK (HR.o.1.trans ((below_drewN _ wr nq).mono HR.o.1.size));clear c0 c1 HR;revert B;generalize wr.drewN nq=wu;intro B;clear nq;go_wp2_with fail;go_ret;refine⟨false,rfl,⟨λ h=>(by cases h),λ h=>?_⟩,B.o⟩;have h1:=A.o.1;rw[h,A.o.2]at h1;exact absurd (Option.some.inj h1).symm G.o
  subst hpq;have hd:(p==p)=true:=beq_self_eq_true _;go_upto_region 6 with fail;refine zt 9 (by kernel_rfl) (by kernel_rfl) ?_;simp only[yh,yj,yi,yl]
  repeat (go_big_quiet_step (fail))
  refine wpQuiet_nil ?_;intro nq;have C:Hid (Bw w (wr.drewN nq)/\∀ j:Nat,j<i+1->a[j]?=b[j]?):=yK ⟨HR.o.1.trans ((below_drewN _ wr nq).mono HR.o.1.size),λ j hj=>by
   rcases (by omega:j<i\/j=i)with h|rfl
   ·exact HR.o.2 j h
   rw[A.o.1,A.o.2]⟩
  clear c0 c1 HR hd;revert C;generalize wr.drewN nq=wu;intro C;clear nq;go_wp2_with fail
  go_roundw
  case rel=>exact⟨i+1,by omega,by go_num,C⟩
  case measure=>simp[intOf];omega
def qex (t:Tk):Prop:=t.ground.length<=70/\t.kinds.length<=10/\t.counts.length<=10/\t.fixed.length<=20/\t.below.length<=410
def za4 (t:Tk):Prop:=qex t/\∀ s∈t.kinds,s.length<=20
theorem qgX {t:Tk} (w:World) (vg vk vc vf vb:Value) (hg:HasQ w vg t.ground) (hk:HasQQ w vk t.kinds) (hc:RI.Has w vc t.counts) (hf:RL.Has w vf t.fixed) (hb:RE.Has w vb t.below) :
  Calls Tryz.prog 62 #[.agg #[vg,vk,vc,vf,vb]] w λ e w'=>∃ r:Bool,e=.returned (.bool r)/\(r=false↔za4 t)/\Bw w w':=by
 obtain⟨gp,gc,rfl⟩:=hg.slice;obtain⟨kp,kc,rfl⟩:=hk.slice;obtain⟨cp,cc,rfl⟩:=hc.slice;obtain⟨fp,fc,rfl⟩:=hf.slice;obtain⟨bp,bc,rfl⟩:=hb.slice;clear hg hc hf hb;have hT:=yd w (.cells #[.slice gp t.ground.length gc,.slice kp t.kinds.length kc,.slice cp t.counts.length cc,.slice fp t.fixed.length fc,.slice bp t.below.length bc] 34);have hB:Bw w (w.alloc (.cells #[.slice gp t.ground.length gc,.slice kp t.kinds.length kc,.slice cp t.counts.length cc,.slice fp t.fixed.length fc,.slice bp t.below.length bc] 34)):=(yf _ w).alloc (ye _) _;have A:=hk.below hB;go_enter func62,ntmps62;go_upto_region 1 with fail;revert hT hB A;change _->_->_->Code.wp _ _ _ _ (w.alloc (.cells #[.slice gp t.ground.length gc,.slice kp t.kinds.length kc,.slice cp t.counts.length cc,.slice fp t.fixed.length fc,.slice bp t.below.length bc] 34));generalize w.alloc (.cells #[.slice gp t.ground.length gc,.slice kp t.kinds.length kc,.slice cp t.counts.length cc,.slice fp t.fixed.length fc,.slice bp t.below.length bc] 34)=w1;intro hT hB A;have HB:=yK hB;clear hB hk;have HK:=yK A;clear A;have e0:w1.cell? ⟨w.heap.size,0,none⟩=some (.slice gp t.ground.length gc):=by simp only[World.cell?,hT];rfl
 have e1:w1.cell? ⟨w.heap.size,1,none⟩=some (.slice kp t.kinds.length kc):=by simp only[World.cell?,hT];rfl
 have e2:w1.cell? ⟨w.heap.size,2,none⟩=some (.slice cp t.counts.length cc):=by simp only[World.cell?,hT];rfl
 have e3:w1.cell? ⟨w.heap.size,3,none⟩=some (.slice fp t.fixed.length fc):=by simp only[World.cell?,hT];rfl
 have e4:w1.cell? ⟨w.heap.size,4,none⟩=some (.slice bp t.below.length bc):=by simp only[World.cell?,hT];rfl
 clear hT;go_cut [31]from 4 to 31 (λ u wx=>∃ r:Bool,u=.bool r/\Hid (r=false↔qex t)/\wx=w1)
 case first =>
  by_cases h1:t.ground.length<=70
  case neg =>
   have d1:decide ((70:Int)<(t.ground.length:Int))=true:=yw (by omega);have H1:=yK h1;clear h1;go_wp2_with fail
   go_meet
   case rel=>exact⟨true,rfl,yK ⟨λ h=>(by cases h),λ h=>absurd h.1 H1.o⟩,rfl⟩
  have d1:decide ((70:Int)<(t.ground.length:Int))=false:=yv (by omega);have H1:=yK h1;clear h1;by_cases h2:t.kinds.length<=10
  case neg =>
   have d2:decide ((10:Int)<(t.kinds.length:Int))=true:=yw (by omega);have H2:=yK h2;clear h2;go_wp2_with fail
   go_meet
   case rel=>exact⟨true,rfl,yK ⟨λ h=>(by cases h),λ h=>absurd h.2.1 H2.o⟩,rfl⟩
  have d2:decide ((10:Int)<(t.kinds.length:Int))=false:=yv (by omega);have H2:=yK h2;clear h2;by_cases h3:t.counts.length<=10
  case neg =>
   have d3:decide ((10:Int)<(t.counts.length:Int))=true:=yw (by omega);have H3:=yK h3;clear h3;go_wp2_with fail
   go_meet
   case rel=>exact⟨true,rfl,yK ⟨λ h=>(by cases h),λ h=>absurd h.2.2.1 H3.o⟩,rfl⟩
  have d3:decide ((10:Int)<(t.counts.length:Int))=false:=yv (by omega);have H3:=yK h3;clear h3;by_cases h4:t.fixed.length<=20
  case neg =>
   have d4:decide ((20:Int)<(t.fixed.length:Int))=true:=yw (by omega);have H4:=yK h4;clear h4;go_wp2_with fail
   go_meet
   case rel=>exact⟨true,rfl,yK ⟨λ h=>(by cases h),λ h=>absurd h.2.2.2.1 H4.o⟩,rfl⟩
  have d4:decide ((20:Int)<(t.fixed.length:Int))=false:=yv (by omega);have H4:=yK h4;clear h4;by_cases h5:t.below.length<=410
  case neg =>
   have d5:decide ((410:Int)<(t.below.length:Int))=true:=yw (by omega);have H5:=yK h5;clear h5;go_wp2_with fail
   go_meet
   case rel=>exact⟨true,rfl,yK ⟨λ h=>(by cases h),λ h=>absurd h.2.2.2.2 H5.o⟩,rfl⟩
  have d5:decide ((410:Int)<(t.below.length:Int))=false:=yv (by omega);have H5:=yK h5;clear h5;go_wp2_with fail
  go_meet
  case rel=>exact⟨false,rfl,yK ⟨λ _=>⟨H1.o,H2.o,H3.o,H4.o,H5.o⟩,λ _=>rfl⟩,rfl⟩
 case rest =>
  obtain⟨r,rfl,HR,rfl⟩:=hcut;clear e0 e2 e3 e4
  cases r with
  | true =>
   have HN:Hid (¬ qex t):=yK λ h=>by have:=HR.o.2 h;cases this
   clear HR e1;go_wp2_with fail;go_ret;exact⟨true,rfl,⟨λ h=>(by cases h),λ h=>absurd h.1 HN.o⟩,HB.o⟩
  | false =>
   have HS:=yK (HR.o.1 rfl);clear HR;have F:t.kinds.length<=10:=HS.o.2.1;go_wp2_with fail;go_loopw [3] (λ z wq=>∃ i:Nat,i<=t.kinds.length/\z=.int .i64 i/\wq=wc/\Hid (∀ (j:Nat) (s:List Q),j<i->t.kinds[j]?=some s->s.length<=20)) (λ z _=>t.kinds.length-(intOf z).toNat)
   case atStart=>exact⟨0,YC _,rfl,rfl,yK λ j s hj=>absurd hj (by omega)⟩
   obtain⟨i,hi,rfl,rfl,HI⟩:=hrel;by_cases hlt:i<t.kinds.length
   case pos =>
    obtain⟨s,hs⟩:∃ s,t.kinds[i]?=some s:=⟨_,yb hlt⟩;obtain⟨ka,sv,rfl,G,D⟩:=HK.o.at hs;obtain⟨sp,sc,rfl⟩:=D.slice;have C:=yK hs;clear hs D;by_cases h20:s.length<=20
    case pos =>
     have hd:decide ((20:Int)<(s.length:Int))=false:=yv (by omega);have B:=yK h20;clear h20;go_wp2_with fail
     go_roundw
     case rel=>exact⟨i+1,by omega,by go_num,trivial,yK λ j m hj hm=>by
      rcases (by omega:j<i\/j=i)with h|rfl
      ·exact HI.o j m h hm
      rw[C.o]at hm;cases hm;exact B.o⟩
     case measure=>simp[intOf];omega
    have hd:decide ((20:Int)<(s.length:Int))=true:=yw (by omega);have B:=yK h20;clear h20;go_wp2_with fail;go_ret;exact⟨true,rfl,⟨λ h=>(by cases h),λ h=>absurd (h.2 s (yg C.o)) B.o⟩,HB.o⟩
   obtain rfl:i=t.kinds.length:=(by omega);go_wp2_with fail;go_ret;exact⟨false,rfl,⟨λ _=>⟨HS.o,λ m hm=>by
    obtain⟨j,hj⟩:=yV hm;exact HI.o j m (yc.1 hj).1 hj⟩,λ _=>rfl⟩,HB.o⟩
structure FamJ (F:Nat->(Nat->Value)->World->Prop) (dead reads:Nat->List Nat) (B:(Nat->Bool)->World->Prop) (L:Nat->Bool) (vals:Nat->Value) (W:World):Prop where
 base:B L W
 each:∀ i,L i=true->(∀ j∈reads i,L j=true)/\((∀ j∈dead i,L j=false)->F i vals W)
section
variable {F:Nat->(Nat->Value)->World->Prop} {dead reads:Nat->List Nat} {B:(Nat->Bool)->World->Prop} {L:Nat->Bool} {vals:Nat->Value} {W W':World}
theorem FamJ.start (h:B (λ _=>false) W) (v:Nat->Value):FamJ F dead reads B (λ _=>false) v W:=⟨h,λ i h=>by simp at h⟩
theorem FamJ.get (h:FamJ F dead reads B L vals W) (i:Nat) (hi:L i=true) (hd:∀ j∈dead i,L j=false):F i vals W:=(h.each i hi).2 hd
theorem FamJ.step (h:FamJ F dead reads B L vals W) (hR:∀ i v v' W,(∀ j,(j=i\/j∈reads i)->v j=v' j)->F i v W->F i v' W) {i:Nat} {v:Value} (hi:L i=false) (hr:∀ j∈reads i,L j=true) (hB:B (λ j=>L j||j==i) W')
  (hv:F i (λ j=>if j=i then v else vals j) W') (hk:∀ k,L k=true->(∀ j∈dead k,(L j||j==i)=false)->F k vals W->F k vals W'):FamJ F dead reads B (λ j=>L j||j==i) (λ j=>if j=i then v else vals j) W':=by
 refine⟨hB,λ k hkL=>?_⟩;by_cases e:k=i
 ·subst e;exact⟨λ j hj=>by simp[hr j hj],λ _=>hv⟩
 ·have A:L k=true:=by simpa[e]using hkL
  obtain⟨h1,h2⟩:=h.each k A;refine⟨λ j hj=>by simp[h1 j hj],λ hd=>?_⟩;have C:∀ j∈dead k,L j=false:=λ j hj=>by have:=hd j hj;simp at this;exact this.1
  refine hR k vals _ W' (λ j hj=>?_) (hk k A hd (h2 C));have D:j≠i:=by
   rcases hj with rfl|hj
   ·exact e
   intro e2;rw[e2]at hj;rw[h1 i hj]at hi;cases hi
  rw[Yz D]
theorem FamJ.still (h:FamJ F dead reads B L vals W) (hR:∀ i v v' W,(∀ j,(j=i\/j∈reads i)->v j=v' j)->F i v W->F i v' W) (hBm:∀ L L' W,(∀ j,L j=true->L' j=true)->B L W->B L' W) {i:Nat} {v:Value} (hi:L i=false) (hr:∀ j∈reads i,L j=true)
  (hv:F i (λ j=>if j=i then v else vals j) W):FamJ F dead reads B (λ j=>L j||j==i) (λ j=>if j=i then v else vals j) W :=
 h.step hR hi hr (hBm L _ W (λ j hj=>by simp[hj]) h.base) hv (λ _ _ _ h=>h)
end
section
variable {P:Program}
theorem zdy {o:Oper} {T:TypeId} {b:Act} {W:World} {v:Value} {next:Value->World->Prop} (ho:o.op=.alloc T) (hz:(zeroValue T).run P W=.ok v W)
  (hn:next (.pointer (some ⟨W.heap.size,0,none⟩)) (W.alloc (.cells v.cells T))):loudUpon P next ((execOp b.eval o).run P W):=by
 refine zV (v:=.pointer (some ⟨W.heap.size,0,none⟩)) (W':=W.alloc (.cells v.cells T)) ?_ hn;unfold execOp;simp[ho,Instr.alloc,yG,hz,newVar,newRow,Result.andThen]
theorem zbI {o:Oper} {T t:TypeId} {p u:Operand} {b:Act} {W:World} {g:Nat} {old cells:Array Value} {next:Value->World->Prop} (ho:o.op=.store T p u) (hp:b.eval p=.pointer (some ⟨g,0,none⟩)) (hu:b.eval u=.agg cells)
  (hg:W.heap[g]?=some (.cells old t (0,0))) (hi:(P.info? T).map (·.size)=some cells.size) (hold:old.size=cells.size) (h1:cells.all (·.oneCell')=true)
  (hn:next undef (W.setRow g cells)):loudUpon P next ((execOp b.eval o).run P W):=by
 refine zdM (W':=W.setRow g cells) ?_ hn;unfold execOp;simp only[ho,hp,hu,Instr.storeAt,Instr.sureAddr,yG,yH,yz,run_storeVar_row W g t T old cells hg hi hold h1]
end
theorem ze4 {α:Type} (R:REnc α) (hn:0<R.n) {T:TypeId} (hT:Tryz.prog.underlying T=some (.slice R.ty)) (bytes:Nat) (hi:∃ (i:TypeInfo) (z:Value),Tryz.prog.info? R.ty=some i/\i.zero=some z/\z.cells.size=R.n/\i.size=R.n/\i.bytes=bytes) (hby:0<bytes/\bytes<=40)
  (hnil:∀ (W:World) (p:Option Addr) (c:Nat),(Builtin.append_ #[T,T] T #[.slice p 0 c,.slice none 0 0]).run Tryz.prog W=.ok (.slice p 0 c) W)
  {l:List α} (hl:l.length<=1000000) {base:Nat} {W:World} (hbase:base<=W.heap.size) {v:Value} (hv0:R.Own W base v []) (p:Option Addr) (c:Nat) (hv:R.Has W (.slice p l.length c) l) :
  ∃ vg W2,(Builtin.append_ #[T,T] T #[v,.slice p l.length c]).run Tryz.prog W=.ok vg W2/\R.Own W2 base vg l/\W.grownBy W2 v.ownBlock:=by
 obtain⟨i,z,D,F,G,C,A⟩:=hi;rcases hv with⟨h1,h2⟩|⟨a,cap,h1,h2,h3,h4⟩
 ·subst h2;simp only[yC,yN,true_and]at h1;obtain⟨rfl,rfl⟩:=h1;obtain⟨q,d,rfl⟩:=zf hv0;exact⟨_,_,hnil _ _ _,hv0,World.grownBy.refl _ _⟩
 ·simp only[yC,true_and]at h1;obtain⟨rfl,rfl⟩:=h1;have B:(0+l.length)*bytes<=140737488355328:=by
   rw[Nat.zero_add];have:l.length*bytes<=1000000*40:=Nat.mul_le_mul hl hby.2;omega
  obtain⟨v',W',hr,ho,hg,_,_⟩:=run_append_own_at (P:=Tryz.prog) W base T T R.ty i z R.n bytes hT D F C A G hn v 0 [] hv0 a l.length c (R.cells l) (R.cells_length l) (qci hn h4) (λ u hu=>by obtain⟨x,_,hx⟩:=List.mem_flatMap.1 hu;exact R.one x u hx) (by simp only[maxLen];omega) B hbase;exact⟨v',W',hr,by simpa[REnc.Own]using ho,hg⟩
theorem zfj {l:List Int} (hl:l.length<=1000000) {base:Nat} {W:World} (hbase:base<=W.heap.size) {v:Value} (hv0:RI.Own W base v []) (p:Option Addr) (c:Nat) (hv:RI.Has W (.slice p l.length c) l) :
  ∃ vg W2,(Builtin.append_ #[30,30] 30 #[v,.slice p l.length c]).run Tryz.prog W=.ok vg W2/\RI.Own W2 base vg l/\W.grownBy W2 v.ownBlock :=
 ze4 RI (by decide) underlying30 8 (qdf qdj rfl) (by decide) (λ W p c=>by cases p <;> simp[Builtin.append_,go_sem]) hl hbase hv0 p c hv
end Go.Proofs.YtiinlplgloaanaaGreatDoor
