/- Plain law of BrickBorders. -/
import Derived.Test.YtiinlplgloaanaaGreatDoorZzTopLessOne31
import Derived.ProofKit
import Derived.ReadAgain
import Derived.Deep.SlicePairs
import Derived.Lib.LaidU8
import Derived.PinnedBridge
import Derived.ChangeSame
import Derived.ChangeVars
import Derived.JoinedOf
import Derived.LaidLaws
import Derived.LaidHandle
import Derived.LaidMore
import Derived.MakeChecks
import Derived.Test.YtiinlplgloaanaaGreatDoorRows
import Derived.Lib.SmallJoins
import Derived.Deep.MidRow
import Derived.Lib.EndianBits
import Derived.Laws.BitsLemmas
import Derived.Shelf.Strings.Builder1
import Derived.Shelf.Strings.Builder2
import Derived.Shelf.Strings.OnBuilder
import Derived.Shelf.Small.Bits
import Derived.Shelf.Small.Strs
import Derived.Shelf.Strconv.Itoa0
import Derived.Shelf.Strconv.Itoa1
import Derived.Shelf.LaysM
import Derived.Shelf.Strconv.Itoa2
import Derived.Shelf.Strconv.Itoa3
import Derived.Shelf.Sort.Plain
import Derived.Shelf.Slices.Equal
import Derived.Shelf.Slices.In.SortNone
import Derived.Shelf.Slices.Empties2
import Derived.Shelf.SlGeneric
import Derived.Shelf.SlSortCmp.NoneTotal
import Derived.Shelf.Spec.TrailingZeros
import Derived.Ground.NamesProg
import Derived.Ground.Names7Prog
import Derived.Ground.SlsfProg
import Derived.Test.YtiinlplgloaanaaGreatDoorProg
/- Parse. -/
namespace Go.Proofs.YtiinlplgloaanaaGreatDoor
set_option linter.all false
open Go.RowKit
attribute [local go_sem] Oper.semAt_some
theorem shaped_below {P:Program} {w w':World} (h:w.ShapedOpen P) (e:Below w.heap.size w w'):w'.ShapedOpen P:=by
 have lt_of_some:∀ {i:Nat} {o:Obj},w.heap[i]?=some o→i<w.heap.size:=λ ho=>(Array.getElem?_eq_some_iff.1 ho).1
 refine ⟨λ g zero t hg hz=>?_,λ k hk1 hk2=>?_⟩
 ·obtain ⟨cs,h1,h2,h3⟩:=h.1 g zero t hg hz
  refine ⟨cs,(e.block g (lt_of_some h1)).trans h1,h2,λ hb=>Row.ok_of_shape (λ b x hx=>?_) (h3 hb)⟩
  have hlt:b<w.heap.size:=by
   rcases Nat.lt_or_ge b w.heap.size with h' | h'
   ·exact h'
   ·simp [World.shape?,Array.getElem?_eq_none h'] at hx
  simpa [World.shape?,e.block b hlt] using hx
 ·obtain ⟨o,o₀,h1,h2,h3⟩:=h.2 k hk1 hk2
  exact ⟨o,o₀,(e.block k (lt_of_some h1)).trans h1,h2,h3⟩
theorem rows_spl (s:ByteArray):(Lib.splitB ⟨#[47]⟩ 0 (Lib.countB s ⟨#[47]⟩) s).map (·.data.toList)=spl s.data.toList:=by
 rw [Lib.splitB_data]
 exact split_spl s.data.toList
theorem parse_bad {s:List UInt8} (h:¬ 272<s.length) (hb:¬ goodR (spl s)):parseC s=([],4):=by
 rw [parseC,if_neg h,if_neg (λ h=>hb h.1)]
end Go.Proofs.YtiinlplgloaanaaGreatDoor
/- The law's own functions: own, equal. -/
namespace Go.Proofs.YtiinlplgloaanaaGreatDoor
set_option linter.all false
open Go.RowKit
attribute [local go_sem] Oper.semAt_some
theorem qsAt_cells {W:World} {a:Addr} {l:List Q} (h:QsAt W a l):∀ (j:Nat) (u:Value),(qCells l)[j]?=some u→W.cell? (a.add j)=some u:=by
 intro j u hu
 obtain ⟨i,r,hr,rfl⟩:∃ i r,r<3∧j=i*3+r:=⟨j / 3,j % 3,Nat.mod_lt _ (by decide),by omega⟩
 have hj:i*3+r<l.length*3:=by
  have:=(List.getElem?_eq_some_iff.1 hu).1
  rwa [qCells_length] at this
 obtain ⟨q,hq⟩:∃ q,l[i]?=some q:=⟨_,List.getElem?_eq_getElem (by omega)⟩
 obtain ⟨g0,g1,g2⟩:=qCells_get hq
 have e0:=h.at0 _ q hq
 have e1:=h.at1 _ q hq
 have e2:=h.at2 _ q hq
 rcases (by omega:r=0∨r=1∨r=2) with rfl | rfl | rfl
 ·rw [Nat.add_zero] at hu ⊢; rw [g0] at hu; cases hu; exact e0
 ·rw [g1] at hu; cases hu
  rw [← e1]; congr 1
  unfold Addr.add
  by_cases h0:i*3=0 <;> simp [h0]
  rw [Nat.add_assoc]
 ·rw [g2] at hu; cases hu
  rw [← e2]; congr 1
  unfold Addr.add
  by_cases h0:i*3=0 <;> simp [h0]
  rw [Nat.add_assoc]
end Go.Proofs.YtiinlplgloaanaaGreatDoor
/- Kind. -/
namespace Go.Proofs.YtiinlplgloaanaaGreatDoor
set_option linter.all false
open Go.RowKit
attribute [local go_sem] Oper.semAt_some
def kindsL:List (ByteArray × ByteArray):=[(⟨#[115,113,117,97,114,101]⟩,⟨#[102]⟩),(⟨#[111,98,108,111,110,103]⟩,⟨#[102,102]⟩),(⟨#[103,114,101,97,116]⟩,⟨#[102,102,47,102,102]⟩),(⟨#[104,97,108,102]⟩,⟨#[51]⟩),
 (⟨#[113,117,97,114,116,101,114]⟩,⟨#[49]⟩),(⟨#[116,114,105,97,110,103,108,101]⟩,⟨#[54,99]⟩),(⟨#[100,105,97,109,111,110,100]⟩,⟨#[54,99,47,51,57]⟩),(⟨#[98,101,110,116]⟩,⟨#[102,48,47,102,102]⟩)]
def kindsA:Array Value:=(kindsL.flatMap λ p=>[Value.string p.1,Value.string p.2]).toArray
def KindsAt (W:World):Prop:=∃ t fr,W.heap[0]?=some (.cells kindsA t fr)
theorem KindsAt.below {W W':World} (h:KindsAt W) (e:Below W.heap.size W W'):KindsAt W':=by
 obtain ⟨t,fr,h⟩:=h
 exact ⟨t,fr,(e.block _ (Array.getElem?_eq_some_iff.1 h).1).trans h⟩
theorem kinds_get {k:Nat} (h:k<8) (W:World):∃ n t,kindsL[k]?=some (n,t)∧(Instr.index 93 (.agg kindsA) (.int .i64 (k:Int))).run Tryz.prog W=.ok (.agg #[.string n,.string t]) W:=by
 rcases (by omega:k=0∨k=1∨k=2∨k=3∨k=4∨k=5∨k=6∨k=7) with rfl | rfl | rfl | rfl | rfl | rfl | rfl | rfl <;> exact ⟨_,_,rfl,by kernel_rfl⟩
def kindC (s:ByteArray):List Q × Nat:=match kindsL.find? (λ p=>p.1.data.toList==s.data.toList) with
 | some p=>parseC p.2.data.toList
 | none=>([],7)
theorem find_drop {k:Nat} {p:ByteArray × ByteArray} (h:kindsL[k]?=some p) (s:ByteArray):(kindsL.drop k).find? (λ p=>p.1.data.toList==s.data.toList)=if p.1.data.toList==s.data.toList then some p else (kindsL.drop (k+1)).find? (λ p=>p.1.data.toList==s.data.toList):=by
 obtain ⟨hk,rfl⟩:=List.getElem?_eq_some_iff.1 h
 rw [List.drop_eq_getElem_cons hk,List.find?_cons]
 split <;> simp_all
end Go.Proofs.YtiinlplgloaanaaGreatDoor
/- known. -/
namespace Go.Proofs.YtiinlplgloaanaaGreatDoor
set_option linter.all false
open Go.RowKit
attribute [local go_sem] Oper.semAt_some
theorem HasQQ.slice {W:World} {v:Value} {ls:List (List Q)} (h:HasQQ W v ls):∃ p c,v=.slice p ls.length c:=by
 rcases h with ⟨rfl,rfl⟩ | ⟨a,cap,vs,rfl,_⟩
 ·exact ⟨_,_,rfl⟩
 ·exact ⟨_,_,rfl⟩
theorem HasP.slice {W:World} {v:Value} {l:List Plc} (h:HasP W v l):∃ p c,v=.slice p l.length c:=by
 rcases h with ⟨rfl,rfl⟩ | ⟨a,c,rfl,_⟩
 ·exact ⟨_,_,rfl⟩
 ·exact ⟨_,_,rfl⟩
theorem HasEs.slice {W:World} {v:Value} {l:List E} (h:HasEs W v l):∃ p c,v=.slice p l.length c:=by
 rcases h with ⟨rfl,rfl⟩ | ⟨a,c,rfl,_⟩
 ·exact ⟨_,_,rfl⟩
 ·exact ⟨_,_,rfl⟩
end Go.Proofs.YtiinlplgloaanaaGreatDoor
/- A slice of quarters as an argument: opened. -/
namespace Go.Proofs.YtiinlplgloaanaaGreatDoor
set_option linter.all false
open Go.RowKit Go.ChangeShapes Go.WideShapes Go.Deep
theorem cellsQ':Tryz.prog.cellsOf 56=3:=by kernel_rfl
theorem cellsI':Tryz.prog.cellsOf 3=1:=by kernel_rfl
instance : Inhabited Q:=⟨0,0,0⟩
theorem structQ:∃ f0 f1 f2:Field,Tryz.prog.underlying 56=some (.struct #[f0,f1,f2])∧f0.type=3∧f1.type=3∧f2.type=3∧f0.offset=0∧f1.offset=1∧f2.offset=2:=⟨_,_,_,Tryz.underlying56,rfl,rfl,rfl,rfl,rfl,rfl⟩
set_option maxRecDepth 100000 in
theorem open_quarters {H:Type} {enc:TypeId × Value→H} {w:World} {spare:Nat→Bool} {held:Bool} {fuel:Nat} {v:Value} {x:DataW H × List MemPlace} (h:DataW.trod enc Tryz.prog w 0 spare held fuel 22 [v]=some x):∃ l,HasQ w v l:=by
 rcases open_slice Tryz.underlying22 h with ⟨h0,_⟩ | ⟨a,len,cap,m,n,D,Pl,h0,_,hl,hm,hmm,_,hx⟩
 ·simp only [List.cons.injEq,and_true] at h0
  exact ⟨[],.inl ⟨h0,rfl⟩⟩
 ·simp only [List.cons.injEq,and_true] at h0
  subst h0
  have hlm:len≤m:=by rw [hmm]; split <;> omega
  obtain ⟨f0,f1,f2,hs,t0,t1,t2,o0,o1,o2⟩:=structQ
  have each:∀ i,i<m→∃ q:Q,w.cell? (a.add (i*3))=some (.int .i64 q.x)∧w.cell? (a.add (i*3+1))=some (.int .i64 q.y)∧w.cell? (a.add (i*3+2))=some (.int .i64 q.s):=by
   intro i hi
   obtain ⟨cs',h1,h2⟩:=hx i hi
   rw [cellsQ'] at h1
   obtain ⟨_,hlen,hcell⟩:=World.cells?_some h1
   obtain ⟨xs,k,hk,hxy,_,hxl,hf⟩:=DataW.trod_struct hs h2
   match xs,hxl,cs',hlen with
   | [y0,y1,y2],_,[v0,v1,v2],_ =>
    have g0:=hf 0 f0 rfl
    have g1:=hf 1 f1 rfl
    have g2:=hf 2 f2 rfl
    simp [o0,o1,o2,t0,t1,t2,cellsI'] at g0 g1 g2
    obtain ⟨n0,e0,_⟩:=DataW.trod_int Tryz.underlying3 g0
    obtain ⟨n1,e1,_⟩:=DataW.trod_int Tryz.underlying3 g1
    obtain ⟨n2,e2,_⟩:=DataW.trod_int Tryz.underlying3 g2
    simp only [List.cons.injEq,and_true] at e0 e1 e2
    subst e0; subst e1; subst e2
    have c0:=hcell 0 (by omega)
    have c1:=hcell 1 (by omega)
    have c2:=hcell 2 (by omega)
    rw [add_add] at c0 c1 c2
    exact ⟨⟨n0,n1,n2⟩,by simpa using c0,by simpa using c1,by simpa using c2⟩
  obtain ⟨q,hq⟩:=choose_lt each
  refine ⟨(List.range len).map q,.inr ⟨a,cap,by simp,by simpa using hl,hm,?_,λ i r hr=>?_,λ i r hr=>?_,λ i r hr=>?_⟩⟩
  ·intro hne
   have h0:0<len:=by
    rcases Nat.eq_zero_or_pos len with h | h
    ·subst h; exact absurd rfl hne
    ·exact h
   obtain ⟨c0,_⟩:=hq 0 (by omega)
   rw [Nat.zero_mul] at c0
   unfold World.cell? at c0
   rcases Nat.lt_or_ge (a.add 0).block w.heap.size with h | h
   ·rwa [block_add] at h
   ·rw [Array.getElem?_eq_none h] at c0; cases c0
  all_goals
   have hi:i<len:=by have:=(List.getElem?_eq_some_iff.1 hr).1; simpa using this
   rw [List.getElem?_map,List.getElem?_range hi] at hr
   simp only [Option.map_some,Option.some.injEq] at hr
   subst hr
   obtain ⟨c0,c1,c2⟩:=hq i (by omega)
  ·exact c0
  ·rw [← c1]; congr 1
   unfold Addr.add
   by_cases h0:i*3=0 <;> simp [h0]
   rw [Nat.add_assoc]
  ·rw [← c2]; congr 1
   unfold Addr.add
   by_cases h0:i*3=0 <;> simp [h0]
   rw [Nat.add_assoc]
end Go.Proofs.YtiinlplgloaanaaGreatDoor
/- What the row's list says of the table of kinds. -/
namespace Go.Proofs.YtiinlplgloaanaaGreatDoor
set_option linter.all false
open Go.RowKit Go.ChangeShapes Go.WideShapes Go.Deep
theorem arr_at {H:Type} {enc:TypeId × Value→H} {P:Program} {w:World} {base:Nat} {sp:Nat→Bool} {held:Bool} {fuel:Nat} {t e:TypeId} {n:Nat} {cs:List Value} {x:DataW H × List MemPlace}
  (ht:P.underlying t=some (.array n e)) (h:DataW.trod enc P w base sp held fuel t cs=some x) :
  ∃ (k:Nat) (xs:List (DataW H × List MemPlace)),x.1=.agg (xs.map (·.1))∧cs.length=P.cellsOf t∧xs.length=n∧∀ i,i<n→DataW.trod enc P w base sp held k e ((cs.drop (i*P.cellsOf e)).take (P.cellsOf e))=xs[i]?:=by
 cases fuel with
 | zero=>simp [DataW.trod] at h
 | succ fuel =>
  simp only [DataW.trod,ht] at h
  split at h
  ·rename_i hl
   obtain ⟨xs,hm,hx⟩:=Option.map_eq_some_iff.1 h
   have hxl:xs.length=n:=by simpa using Lib.mapM_length hm
   refine ⟨fuel,xs,by rw [← hx],by simpa using hl,hxl,λ i hi=>?_⟩
   obtain ⟨b,hb,hf⟩:=Lib.mapM_at hm i i (List.getElem?_range hi)
   rw [hb]; exact hf
  ·cases h
set_option maxRecDepth 100000 in
theorem two_strings {H:Type} {enc:TypeId × Value→H} {w:World} {base:Nat} {sp:Nat→Bool} {held:Bool} {k:Nat} {cs:List Value} {x:DataW H × List MemPlace} {a b:List UInt8}
  (h:DataW.trod enc Tryz.prog w base sp held k 92 cs=some x) (hx:x.1=.agg [.lit (.string a),.lit (.string b)]):cs=[.string ⟨a.toArray⟩,.string ⟨b.toArray⟩]:=by
 obtain ⟨k',xs,h1,h2,h3,h4⟩:=arr_at Tryz.underlying92 h
 have c9:Tryz.prog.cellsOf 9=1:=by kernel_rfl
 have c2:Tryz.prog.cellsOf 92=2:=by kernel_rfl
 rw [c2] at h2
 match cs,h2,xs,h3 with
 | [v0,v1],_,[y0,y1],_ =>
  have g0:=h4 0 (by omega)
  have g1:=h4 1 (by omega)
  simp [c9] at g0 g1
  obtain ⟨s0,e0,f0,_⟩:=DataW.trod_string Tryz.underlying9 g0
  obtain ⟨s1,e1,f1,_⟩:=DataW.trod_string Tryz.underlying9 g1
  rw [h1] at hx
  simp only [List.map_cons,List.map_nil,DataW.agg.injEq,List.cons.injEq,and_true] at hx
  rw [f0,f1] at hx
  simp only [DataW.lit.injEq,Lit.string.injEq] at hx
  simp only [List.cons.injEq,and_true] at e0 e1
  rw [e0,e1,← hx.1,← hx.2]
theorem gKinds:Tryz.prog.globalNamed "chiti/brick.kinds"=some 0:=by kernel_rfl
theorem tKinds:(Tryz.prog.globals[0]?).map (·.type)=some 93:=by kernel_rfl
theorem split16 {α:Type}:∀ (L:List α),L.length=16→L=L.take 2++((L.drop 2).take 2++((L.drop 4).take 2++((L.drop 6).take 2++((L.drop 8).take 2++((L.drop 10).take 2++((L.drop 12).take 2++(L.drop 14).take 2))))))
 | [_,_,_,_,_,_,_,_,_,_,_,_,_,_,_,_],_=>rfl
set_option maxRecDepth 100000 in
theorem kinds_of_laid {l:List (String × DataW Unit)} {W:World} (hm:("chiti/brick.kinds",Rows.laid_chiti_brick_kinds)∈l) (h:laidMet Tryz.prog l W):KindsAt W:=by
 obtain ⟨g,t,cs,fuel,p,hg,ht,hv,hd⟩:=Lib.laidMet.reads h hm
 obtain rfl:=Option.some.inj (gKinds.symm.trans hg)
 obtain rfl:=Option.some.inj (tKinds.symm.trans ht)
 obtain ⟨k,xs,h1,h2,h3,h4⟩:=arr_at Tryz.underlying93 hd
 have c2:Tryz.prog.cellsOf 92=2:=by kernel_rfl
 have c16:Tryz.prog.cellsOf 93=16:=by kernel_rfl
 rw [c16] at h2
 rw [c2] at h4
 have h1':xs.map (·.1)=kindsL.map (λ p=>(.agg [.lit (.string p.1.data.toList),.lit (.string p.2.data.toList)]:DataW Unit)):=by
  have e:(Rows.laid_chiti_brick_kinds:DataW Unit)=.agg (kindsL.map (λ p=>(.agg [.lit (.string p.1.data.toList),.lit (.string p.2.data.toList)]:DataW Unit))):=rfl
  rw [e] at h1
  simp only [DataW.agg.injEq] at h1
  exact h1.symm
 have each:∀ i,i<8→∃ a b,kindsL[i]?=some (a,b)∧(cs.toList.drop (i*2)).take 2=[.string a,.string b]:=by
  intro i hi
  obtain ⟨⟨a,b⟩,hab⟩:∃ p,kindsL[i]?=some p:=⟨_,List.getElem?_eq_getElem (show i<8 from hi)⟩
  refine ⟨a,b,hab,?_⟩
  have hx:=h4 i hi
  cases hxi:xs[i]? with
  | none=>exact absurd (List.getElem?_eq_none_iff.1 hxi) (by omega)
  | some x =>
   rw [hxi] at hx
   have hx1:x.1=.agg [.lit (.string a.data.toList),.lit (.string b.data.toList)]:=by
    have e:=congrArg (·[i]?) h1'
    simp only [List.getElem?_map,hxi,hab,Option.map_some,Option.some.injEq] at e
    exact e
   have:=two_strings hx hx1
   rw [this]
 have hcs:cs=kindsA:=by
  apply Array.ext'
  rw [split16 cs.toList h2]
  obtain ⟨a0,b0,k0,e0⟩:=each 0 (by omega)
  obtain ⟨a1,b1,k1,e1⟩:=each 1 (by omega)
  obtain ⟨a2,b2,k2,e2⟩:=each 2 (by omega)
  obtain ⟨a3,b3,k3,e3⟩:=each 3 (by omega)
  obtain ⟨a4,b4,k4,e4⟩:=each 4 (by omega)
  obtain ⟨a5,b5,k5,e5⟩:=each 5 (by omega)
  obtain ⟨a6,b6,k6,e6⟩:=each 6 (by omega)
  obtain ⟨a7,b7,k7,e7⟩:=each 7 (by omega)
  simp only [Nat.zero_mul,List.drop_zero] at e0
  simp only [Nat.reduceMul] at e1 e2 e3 e4 e5 e6 e7
  rw [e0,e1,e2,e3,e4,e5,e6,e7]
  cases k0; cases k1; cases k2; cases k3; cases k4; cases k5; cases k6; cases k7
  rfl
 subst hcs
 unfold World.var? at hv
 rw [gKinds] at hv
 simp only [Option.bind_some] at hv
 split at hv
 ·rename_i cs' t' fr hw
  cases hv
  exact ⟨t',fr,hw⟩
 ·cases hv
theorem ret_shaped {H:Type} {enc:TypeId × Value→H} {a:Assume} {C:Checked} {os:Os} {f:FuncId} {fn:Func} {s:ChangeSpec} {conds:List PathCond} {apart fresh handsOn again:Bool} {X:World→Array Value→Prop}
  (hX:∀ (w w':World) (args:Array Value),w.heap=w'.heap→X w args→X w' args)
  (own:ownKnob C.prog.godebug=none) (started:os.Started) (noInit:C.prog.inits.idxOf? f=none) (hfn:C.prog.funcs[f]?=some fn)
  (witness:∃ (w:World) (tape:Tape) (i:Input),w.os=os∧(w.forCall tape i).Shaped C.prog∧i.vars=[]∧Input.okWide C.prog (w.forCall tape i) .any w.heap.size f i ∧
   ((s.pre enc C.prog fn conds apart (w.forCall tape i).memory i.args∧X (w.forCall tape i).memory i.args)∧sizedMet enc C.prog fn (OpenSpec.ofChange s) apart (w.forCall tape i).memory i.args)∧a.holds C.prog (lone (Frame.enter C.prog f i.args .normal) [] (w.forCall tape i)))
  (contract:∀ (W:World) (base:Nat) (args:Array Value) (ds gs:List (DataW H)) (before:List MemPlace),
   (∀ (j:Nat) t v,fn.params[j]?=some t→args[j]?=some v→Value.okWide C.prog W .any base t v) →
   DataW.Whole enc C.prog fn.params.toList s.vars apart W args.toList ds gs before →
   (DataW.weightsEach C.prog (fn.params.toList++s.plain.varTypes C.prog) (ds++gs)).all (·≤reachBytes)=true→X W args→W.ShapedOpen C.prog →
   Calls C.prog f args W λ e W'=>∃ v,e=.returned v∧s.post enc C.prog fn apart fresh handsOn again W args v W') :
  ReturnsInHanded a C os f .any (λ w args=>(s.pre enc C.prog fn conds apart w args∧X w args)∧sizedMet enc C.prog fn (OpenSpec.ofChange s) apart w args) (s.post enc C.prog fn apart fresh handsOn again):=by
 refine returnsInHanded_of_calls own started noInit witness ?_
 intro w tape i _ hsh _ hok hpre _
 obtain ⟨_,_,_,fn',hfn',_,_,_,_,hval⟩:=hok
 have e:fn'=fn:=Option.some.inj (hfn'.symm.trans hfn)
 subst e
 obtain ⟨⟨⟨ds,gs,before,hw,hc⟩,hx⟩,hz⟩:=hpre
 have hw':=DataW.Whole.of_heap (w':=w.forCall tape i) (by rfl) hw
 refine (contract (w.forCall tape i) w.heap.size i.args ds gs before hval hw' (hz.weights hw) (hX _ _ _ (by rfl) hx) hsh).mono λ e W' ⟨v,he,hp⟩=>?_
 subst he
 exact ChangeSpec.post_blind hp
theorem ownKnobs:ownKnob Tryz.prog.godebug=none:=by kernel_rfl
set_option maxRecDepth 100000 in
theorem arg_quarters {H:Type} {enc:TypeId × Value→H} {W:World} {base:Nat} {v:Value} {d:DataW H} {p:List MemPlace} (hval:Value.okWide Tryz.prog W .any base 22 v) (h:DataW.Trod enc Tryz.prog W 0 (λ _=>true) true 22 v d p):∃ l,HasQ W v l:=by
 obtain ⟨a0,len,cap,rfl⟩:=okWide_slice Tryz.underlying22 hval
 obtain ⟨fuel,hf⟩:=h
 exact open_quarters hf
theorem laidOuts:laidOutB Tryz.prog=true:=by kernel_rfl
end Go.Proofs.YtiinlplgloaanaaGreatDoor
/- Border. -/
namespace Go.Proofs.YtiinlplgloaanaaGreatDoor
set_option linter.all false
open Go.RowKit
theorem take_snocG {α:Type} {l:List α} {k:Nat} {q:α} (h:l[k]?=some q):l.take (k+1)=l.take k++[q]:=by
 obtain ⟨hk,rfl⟩:=List.getElem?_eq_some_iff.1 h
 exact List.take_succ_eq_append_getElem hk
attribute [local go_sem] Oper.semAt_some
def oneP (l:List Q):Bool:=decide (l.length=1)
def borderE (l:List Q):List E:=((ownL [] l).filter (λ m=>oneP m.2)).map (·.1)
set_option maxRecDepth 100000 in
theorem oneP_any (l:List Q) (v:Value) (w:World) (h:HasQ w v l) :
  Calls Tryz.prog 58 #[v] w λ e w'=>e=.returned (.bool (oneP l))∧Below w.heap.size w w':=by
 obtain ⟨p,c,rfl⟩:=h.slice
 have hl:l.length≤maxLen:=by
  rcases h with ⟨_,h⟩ | ⟨a,c,_,h1,h2,_⟩
  ·rw [h]; decide
  ·exact Nat.le_trans h1 h2
 simp only [maxLen] at hl
 clear h
 have HO:Hid (oneP l=decide (l.length=1)):=Lib.hid rfl
 by_cases h1:l.length=1
 ·have hb:((l.length:Int)==1)=true:=by rw [h1]; rfl
  have HR:Hid (oneP l=true):=Lib.hid (by rw [HO.out]; exact decide_eq_true h1)
  clear h1
  go_enter Tryz.func58,Tryz.ntmps58
  go_wp2_with fail
  go_ret
  exact ⟨ret_bool (by first | exact HR.out.symm | (rw [HR.out]; simp <;> omega)),Below.refl _ _⟩
 ·have hb:((l.length:Int)==1)=false:=by rw [beq_eq_false_iff_ne]; omega
  have HR:Hid (oneP l=false):=Lib.hid (by rw [HO.out]; exact decide_eq_false h1)
  clear h1
  go_enter Tryz.func58,Tryz.ntmps58
  go_wp2_with fail
  go_ret
  exact ⟨ret_bool (by first | exact HR.out.symm | (rw [HR.out]; simp <;> omega)),Below.refl _ _⟩
end Go.Proofs.YtiinlplgloaanaaGreatDoor
/- Plain maths: which quarters have an edge. -/
namespace Go.Proofs.YtiinlplgloaanaaGreatDoor
set_option linter.all false
open Go.RowKit
def whoE (l:List Q) (e:E):List Q:=l.filter λ q=>decide (e∈edgesQ q)
def GoodM (M:List (E × List Q)) (f:E→List Q):Prop:=(M.map (·.1)).Nodup∧(∀ m∈M,m.2=f m.1)∧(∀ e,f e≠[]→e∈M.map (·.1))∧∀ m∈M,m.2≠[]
theorem addE_keys {M:List (E × List Q)} {e:E} {q:Q} (h:(M.map (·.1)).Nodup):((addE M e q).map (·.1)).Nodup∧(∀ x,x∈(addE M e q).map (·.1)↔x=e∨x∈M.map (·.1)):=by
 induction M with
 | nil=>simp [addE]
 | cons m M ih =>
  unfold addE
  rw [List.map_cons,List.nodup_cons] at h
  by_cases he:m.1=e
  ·rw [if_pos he]
   refine ⟨by rw [List.map_cons,List.nodup_cons]; rw [← he]; exact h,λ x=>?_⟩
   simp only [List.map_cons,List.mem_cons]
   constructor
   ·rintro (h1 | h1)
    ·exact .inl h1
    ·exact .inr (.inr h1)
   ·rintro (h1 | h1 | h1)
    ·exact .inl h1
    ·exact .inl (h1.trans he)
    ·exact .inr h1
  ·rw [if_neg he]
   obtain ⟨i1,i2⟩:=ih h.2
   refine ⟨by rw [List.map_cons,List.nodup_cons]; exact ⟨λ h'=>by rcases (i2 _).1 h' with h'' | h''; exact he h''; exact h.1 h'',i1⟩,λ x=>?_⟩
   simp only [List.map_cons,List.mem_cons,i2]
   constructor
   ·rintro (h1 | h1 | h1)
    ·exact .inr (.inl h1)
    ·exact .inl h1
    ·exact .inr (.inr h1)
   ·rintro (h1 | h1 | h1)
    ·exact .inr (.inl h1)
    ·exact .inl h1
    ·exact .inr (.inr h1)
theorem addE_val {M:List (E × List Q)} {e:E} {q:Q} {f:E→List Q} (h:GoodM M f):GoodM (addE M e q) (λ x=>if x=e then f e++[q] else f x):=by
 obtain ⟨h1,h2,h3,h4⟩:=h
 obtain ⟨k1,k2⟩:=addE_keys (e:=e) (q:=q) h1
 refine ⟨k1,?_,λ x hx=>?_,?_⟩
 ·by_cases hm:e∈M.map (·.1)
  ·obtain ⟨m,hmM,rfl⟩:=List.mem_map.1 hm
   obtain ⟨M1,M2,rfl⟩:=List.append_of_mem hmM
   have hno:∀ x∈M1,x.1≠m.1:=λ x hx e=>by
    rw [List.map_append,List.nodup_append] at h1
    exact h1.2.2 x.1 (List.mem_map.2 ⟨x,hx,rfl⟩) m.1 (by simp) e
   have hno2:∀ x∈M2,x.1≠m.1:=λ x hx e=>by
    rw [List.map_append,List.nodup_append,List.map_cons,List.nodup_cons] at h1
    exact h1.2.1.1 (List.mem_map.2 ⟨x,hx,e⟩)
   rw [show (m:E × List Q)=(m.1,m.2) from rfl,addE_hit hno q]
   intro x hx
   rcases List.mem_append.1 hx with hx | hx
   ·simp only [if_neg (hno x hx)]; exact h2 x (by simp [hx])
   ·rcases List.mem_cons.1 hx with rfl | hx
    ·simp only [if_true]; rw [h2 m (by simp)]
    ·simp only [if_neg (hno2 x hx)]; exact h2 x (by simp [hx])
  ·have hno:∀ x∈M,x.1≠e:=λ x hx he=>hm (List.mem_map.2 ⟨x,hx,he⟩)
   rw [addE_miss hno q]
   have hfe:f e=[]:=by
    by_cases h:f e=[]
    ·exact h
    ·exact absurd (h3 e h) hm
   intro x hx
   rcases List.mem_append.1 hx with hx | hx
   ·simp only [if_neg (hno x hx)]; exact h2 x hx
   ·rw [List.mem_singleton] at hx; subst hx; simp [hfe]
 ·rw [k2]
  by_cases he:x=e
  ·exact .inl he
  ·simp only [if_neg he] at hx; exact .inr (h3 x hx)
 ·by_cases hm:e∈M.map (·.1)
  ·obtain ⟨m,hmM,rfl⟩:=List.mem_map.1 hm
   obtain ⟨M1,M2,rfl⟩:=List.append_of_mem hmM
   have hno:∀ x∈M1,x.1≠m.1:=λ x hx e=>by
    rw [List.map_append,List.nodup_append] at h1
    exact h1.2.2 x.1 (List.mem_map.2 ⟨x,hx,rfl⟩) m.1 (by simp) e
   rw [show (m:E × List Q)=(m.1,m.2) from rfl,addE_hit hno q]
   intro x hx
   rcases List.mem_append.1 hx with hx | hx
   ·exact h4 x (by simp [hx])
   ·rcases List.mem_cons.1 hx with rfl | hx
    ·simp
    ·exact h4 x (by simp [hx])
  ·have hno:∀ x∈M,x.1≠e:=λ x hx he=>hm (List.mem_map.2 ⟨x,hx,he⟩)
   rw [addE_miss hno q]
   intro x hx
   rcases List.mem_append.1 hx with hx | hx
   ·exact h4 x hx
   ·rw [List.mem_singleton] at hx; subst hx; simp
theorem edgesQ_nodup {q:Q} (h:inQ q):(edgesQ q).Nodup:=by
 obtain ⟨x,y,s,rfl,hx,hy,hs⟩:=inQ_nat h
 rcases (by omega:s=0∨s=1∨s=2∨s=3) with rfl | rfl | rfl | rfl <;> simp [edgesQ,sideE]
theorem foldE_val {f:E→List Q} {q:Q}:∀ {es:List E} {M:List (E × List Q)} {f:E→List Q},GoodM M f→es.Nodup→GoodM (es.foldl (λ M e=>addE M e q) M) (λ x=>if x∈es then f x++[q] else f x)
 | [],M,f,h,_=>by simpa using h
 | e :: es,M,f,h,hn=>by
  rw [List.nodup_cons] at hn
  have h1:=foldE_val (f:=f) (q:=q) (es:=es) (addE_val (e:=e) (q:=q) h) hn.2
  rw [List.foldl_cons]
  have e2:(λ x=>if x∈es then (if x=e then f e++[q] else f x)++[q] else if x=e then f e++[q] else f x)=λ x=>if x∈e :: es then f x++[q] else f x:=by
   funext x
   by_cases hx:x=e
   ·subst hx; simp [hn.1]
   ·simp [hx]
  rw [← e2]; exact h1
theorem ownL_good:∀ {l:List Q} {M:List (E × List Q)} {f:E→List Q},GoodM M f→(∀ q∈l,inQ q)→GoodM (ownL M l) (λ e=>f e++whoE l e)
 | [],M,f,h,_=>by simpa [whoE,ownL] using h
 | q :: l,M,f,h,hq=>by
  have h1:=foldE_val (f:=f) (q:=q) h (edgesQ_nodup (hq q (by simp)))
  have h2:=ownL_good (l:=l) h1 (λ p hp=>hq p (by simp [hp]))
  have e2:(λ e=>(if e∈edgesQ q then f e++[q] else f e)++whoE l e)=λ e=>f e++whoE (q :: l) e:=by
   funext e
   unfold whoE
   by_cases he:e∈edgesQ q
   ·rw [if_pos he,List.filter_cons_of_pos (by simpa using he)]; simp
   ·rw [if_neg he,List.filter_cons_of_neg (by simpa using he)]
  rw [e2] at h2
  exact h2
theorem ownL_who {l:List Q} (h:∀ q∈l,inQ q):GoodM (ownL [] l) (whoE l):=by
 have:=ownL_good (l:=l) (M:=[]) (f:=λ _=>[]) ⟨by simp,λ m hm=>(by cases hm),λ e he=>absurd rfl he,λ m hm=>(by cases hm)⟩ h
 simpa using this
theorem pick_mem {l:List Q} (h:∀ q∈l,inQ q) {p:List Q→Bool} (hp:p []=false) (e:E):e∈((ownL [] l).filter (λ m=>p m.2)).map (·.1)↔p (whoE l e)=true:=by
 obtain ⟨h1,h2,h3,h4⟩:=ownL_who h
 rw [List.mem_map]
 constructor
 ·rintro ⟨m,hm,rfl⟩
  rw [List.mem_filter] at hm
  rw [← h2 m hm.1]; exact hm.2
 ·intro hpe
  have hne:whoE l e≠[]:=λ e0=>by rw [e0,hp] at hpe; cases hpe
  obtain ⟨m,hm,he⟩:=List.mem_map.1 (h3 e hne)
  refine ⟨m,List.mem_filter.2 ⟨hm,?_⟩,he⟩
  rw [h2 m hm,he]; exact hpe
theorem pick_nodup {l:List Q} (h:∀ q∈l,inQ q) (p:List Q→Bool):(((ownL [] l).filter (λ m=>p m.2)).map (·.1)).Nodup :=
 (ownL_who h).1.sublist (List.filter_sublist.map _)
end Go.Proofs.YtiinlplgloaanaaGreatDoor
/- Plain maths: the reference's Border. -/
namespace Go.Proofs.YtiinlplgloaanaaGreatDoor
set_option linter.all false
open Go.RowKit
def SrtE (l:List E):Prop:=l.Pairwise λ a b=>¬ ltE b a
theorem ltE_tri {a b:E} (h1:¬ ltE a b) (h2:¬ ltE b a):a=b:=by
 unfold ltE E.toQ Q.lt at h1 h2
 simp only at h1 h2
 exact E.ext' (by omega) (by omega) (by omega)
theorem srtE_eq:∀ {l m:List E},SrtE l→SrtE m→l.Perm m→l=m
 | [],m,_,_,h=>by rw [List.nil_perm.1 h]
 | a :: l,[],_,_,h=>by have:=h.length_eq; simp at this
 | a :: l,b :: m,hl,hm,h=>by
  unfold SrtE at hl hm
  rw [List.pairwise_cons] at hl hm
  have hab:a=b:=by
   by_cases e:a=b
   ·exact e
   ·have ha:a∈m:=by
     rcases List.mem_cons.1 (h.mem_iff.1 (List.mem_cons_self (a:=a) (l:=l))) with h' | h'
     ·exact absurd h' e
     ·exact h'
    have hb:b∈l:=by
     rcases List.mem_cons.1 (h.mem_iff.2 (List.mem_cons_self (a:=b) (l:=m))) with h' | h'
     ·exact absurd h'.symm e
     ·exact h'
    exact ltE_tri (hm.1 a ha) (hl.1 b hb)
  subst hab
  rw [srtE_eq hl.2 hm.2 (List.Perm.cons_inv h)]
end Go.Proofs.YtiinlplgloaanaaGreatDoor
/- Plain maths: the reference's Joints. -/
namespace Go.Proofs.YtiinlplgloaanaaGreatDoor
set_option linter.all false
open Go.RowKit
theorem edge_two {q:Q} (h:inQ q) {e:E} (he:e∈edgesQ q) :
  q=(if e.k<4 then ⟨e.x,e.y,e.k⟩ else if e.k=4 then ⟨e.x,e.y-1,0⟩ else ⟨e.x-1,e.y,1⟩)∨q=(if e.k<4 then ⟨e.x,e.y,(e.k+1) % 4⟩ else if e.k=4 then ⟨e.x,e.y,2⟩ else ⟨e.x,e.y,3⟩):=by
 obtain ⟨x,y,s⟩:=q
 unfold inQ at h; simp only at h
 rcases (by omega:s=0∨s=1∨s=2∨s=3) with rfl | rfl | rfl | rfl <;> (
  simp only [edgesQ,sideE,List.mem_cons,List.not_mem_nil,or_false] at he
  rcases he with rfl | rfl | rfl <;> simp)
theorem edge_third {p q r:Q} (hp:inQ p) (hq:inQ q) (hr:inQ r) {e:E} (h1:e∈edgesQ p) (h2:e∈edgesQ q) (h3:e∈edgesQ r) (hpq:p≠q):r=p∨r=q:=by
 have a:=edge_two hp h1
 have b:=edge_two hq h2
 have c:=edge_two hr h3
 rcases a with a | a <;> rcases b with b | b
 ·exact absurd (a.trans b.symm) hpq
 ·rcases c with c | c
  ·exact .inl (c.trans a.symm)
  ·exact .inr (c.trans b.symm)
 ·rcases c with c | c
  ·exact .inr (c.trans b.symm)
  ·exact .inl (c.trans a.symm)
 ·exact absurd (a.trans b.symm) hpq
theorem flat_at {α:Type} {ls:List (List α)} (hn:ls.flatten.Nodup):∀ {i k:Nat} {l m:List α} {q:α},ls[i]?=some l→ls[k]?=some m→q∈l→q∈m→i=k:=by
 unfold List.Nodup at hn
 rw [List.pairwise_flatten] at hn
 intro i k l m q hi hk hl hm
 obtain ⟨hi',rfl⟩:=List.getElem?_eq_some_iff.1 hi
 obtain ⟨hk',rfl⟩:=List.getElem?_eq_some_iff.1 hk
 rcases Nat.lt_trichotomy i k with h | h | h
 ·exact absurd rfl (List.pairwise_iff_getElem.1 hn.2 i k hi' hk' h _ hl _ hm)
 ·exact h
 ·exact absurd rfl (List.pairwise_iff_getElem.1 hn.2 k i hk' hi' h _ hm _ hl)
theorem mem_flat {α:Type} {ls:List (List α)} {i:Nat} {l:List α} {q:α} (h:ls[i]?=some l) (hq:q∈l):q∈ls.flatten:=List.mem_flatten.2 ⟨l,List.mem_of_getElem? h,hq⟩
theorem part_nodup {α:Type} {ls:List (List α)} (hn:ls.flatten.Nodup) {i:Nat} {l:List α} (h:ls[i]?=some l):l.Nodup:=(List.pairwise_flatten.1 hn).1 l (List.mem_of_getElem? h)
theorem shapesFrom_mem:∀ {ls:List (List Q)} {i n:Nat} {q:Q},(q,n)∈shapesFrom i ls→∃ l,i≤n∧ls[n-i]?=some l∧q∈l
 | [],_,_,_,h=>by simp [shapesFrom] at h
 | a :: ls,i,n,q,h=>by
  simp only [shapesFrom,List.mem_append,List.mem_map,Prod.mk.injEq] at h
  rcases h with ⟨p,hp,rfl,rfl⟩ | h
  ·exact ⟨a,Nat.le_refl _,by simp,hp⟩
  ·obtain ⟨l,h1,h2,h3⟩:=shapesFrom_mem h
   exact ⟨l,by omega,by rw [show n-i=(n-(i+1))+1 by omega,List.getElem?_cons_succ]; exact h2,h3⟩
theorem shape_of {ls:List (List Q)} (hn:ls.flatten.Nodup) {i:Nat} {l:List Q} {q:Q} (h:ls[i]?=some l) (hq:q∈l):shapeAt (shapesFrom 0 ls) q=i:=by
 have:=shapeAt_mem (S:=shapesFrom 0 ls) (q:=q) (by rw [shapesFrom_keys]; exact mem_flat h hq)
 obtain ⟨m,_,h1,h2⟩:=shapesFrom_mem this
 exact (flat_at hn h h1 hq h2).symm
theorem nodup_le {α:Type} [DecidableEq α]:∀ {l m:List α},l.Nodup→(∀ x∈l,x∈m)→l.length≤m.length
 | [],m,_,_=>Nat.zero_le _
 | a :: l,m,h,hs=>by
  rw [List.nodup_cons] at h
  have ha:a∈m:=hs a (by simp)
  have:=nodup_le (l:=l) (m:=m.erase a) h.2 (λ x hx=>(List.mem_erase_of_ne (λ e=>h.1 (by rw [← e]; exact hx))).2 (hs x (by simp [hx])))
  rw [List.length_erase_of_mem ha] at this
  have hpos:=List.length_pos_of_mem ha
  simp only [List.length_cons]; omega
end Go.Proofs.YtiinlplgloaanaaGreatDoor
/- Plain maths: the pieces of a shape. -/
namespace Go.Proofs.YtiinlplgloaanaaGreatDoor
set_option linter.all false
open Go.RowKit
def shareE (p q:Q):Prop:=∃ e,e∈edgesQ p∧e∈edgesQ q
instance (p q:Q):Decidable (shareE p q):=decidable_of_iff (∃ e∈edgesQ p,e∈edgesQ q) ⟨λ ⟨e,h1,h2⟩=>⟨e,h1,h2⟩,λ ⟨e,h1,h2⟩=>⟨e,h1,h2⟩⟩
theorem shareE_symm {p q:Q} (h:shareE p q):shareE q p:=by obtain ⟨e,h1,h2⟩:=h; exact ⟨e,h2,h1⟩
inductive Conn (s:List Q):Q→Q→Prop
 | refl {p:Q}:p∈s→Conn s p p
 | step {p q r:Q}:Conn s p q→r∈s→shareE q r→Conn s p r
theorem Conn.left {s:List Q} {p q:Q} (h:Conn s p q):p∈s:=by
 induction h with
 | refl h=>exact h
 | step _ _ _ ih=>exact ih
theorem Conn.right {s:List Q} {p q:Q} (h:Conn s p q):q∈s:=by
 cases h with
 | refl h=>exact h
 | step _ h _=>exact h
theorem Conn.trans {s:List Q} {p q r:Q} (h:Conn s p q) (h':Conn s q r):Conn s p r:=by
 induction h' with
 | refl _=>exact h
 | step _ h2 h3 ih=>exact ih.step h2 h3
theorem Conn.symm {s:List Q} {p q:Q} (h:Conn s p q):Conn s q p:=by
 induction h with
 | refl h=>exact .refl h
 | step h1 h2 h3 ih=>exact ((Conn.refl h2).step h1.right (shareE_symm h3)).trans ih
/-! ### The program's search -/
def SeenQ (s:List Q) (i:Nat) (q:Q):Prop:=∃ j p,j<i∧s[j]?=some p∧Conn s p q
structure PartI (s:List Q) (i:Nat) (p:Q) (K:List Q) (part:List Q):Prop where
 nodup:part.Nodup
 conn:∀ q∈part,Conn s p q
 first:p∈part
 keys:∀ q,q∈K↔SeenQ s i q∨q∈part
 lead:¬ SeenQ s i p
def DoneE (s:List Q) (part:List Q) (j:Nat):Prop:=∀ q∈part.take j,∀ r∈s,shareE q r→r∈part
theorem PartI.add {s:List Q} {i:Nat} {p:Q} {K part:List Q} (h:PartI s i p K part) {q r:Q} (hq:q∈part) (hr:r∈s) (hs:shareE q r) (hK:r∉K) {K':List Q} (hK':∀ x,x∈K'↔x=r∨x∈K):PartI s i p K' (part++[r]) where
 nodup:=by
  refine List.nodup_append.2 ⟨h.nodup,by simp,λ a ha b hb hab=>?_⟩
  rw [List.mem_singleton] at hb
  subst hb hab
  exact hK ((h.keys a).2 (.inr ha))
 conn:=λ x hx=>by
  rcases List.mem_append.1 hx with hx | hx
  ·exact h.conn x hx
  ·rw [List.mem_singleton] at hx; subst hx; exact (h.conn q hq).step hr hs
 first:=List.mem_append_left _ h.first
 keys:=λ x=>by
  rw [hK',h.keys,List.mem_append,List.mem_singleton]
  constructor
  ·rintro (h1 | h1 | h1)
   ·exact .inr (.inr h1)
   ·exact .inl h1
   ·exact .inr (.inl h1)
  ·rintro (h1 | h1 | h1)
   ·exact .inr (.inl h1)
   ·exact .inr (.inr h1)
   ·exact .inl h1
 lead:=h.lead
theorem DoneE.snoc {s part:List Q} {j:Nat} (h:DoneE s part j) (hj:j≤part.length) {r:Q}:DoneE s (part++[r]) j:=λ q hq x hx hs=>by
 rw [List.take_append_of_le_length hj] at hq
 exact List.mem_append_left _ (h q hq x hx hs)
/-! ### The reference's search -/
end Go.Proofs.YtiinlplgloaanaaGreatDoor
/- slices.SortFunc over quarters: a slice of the call's own is sorted in place. -/
namespace Go.Proofs.YtiinlplgloaanaaGreatDoor
set_option linter.all false
open Go.RowKit
attribute [local go_sem] Oper.semAt_some
theorem sortK_block {α:Type} [Inhabited α] (enc:α→List Value) (n:Nat) (w:World) (g off m:Nat) (dk:Array α) (os:Array Obj) {cur:Array Value} {e:TypeId} {fr:Nat × Nat} (h:w.heap[g]?=some (.cells cur e fr)) :
  ∃ cur',(sortWorldK enc n w g off m dk os).heap[g]?=some (.cells cur' e fr)∧cur'.size=cur.size:=by
 have hg:g<(Sort.putRow id (Sort.ahead w m) g off (Sort.flatK enc n dk)).heap.size:=by
  have:=(Array.getElem?_eq_some_iff.1 h).1
  simpa [Sort.putRow,Sort.mapBlock,Sort.ahead] using this
 refine ⟨Sort.putCells id off (Sort.flatK enc n dk) cur,?_,by simp [Sort.putCells]⟩
 show ((Sort.putRow id (Sort.ahead w m) g off (Sort.flatK enc n dk)).heap++os)[g]?=_
 rw [Array.getElem?_append_left hg]
 simp only [Sort.putRow,Sort.mapBlock,Sort.ahead]
 simp [Array.getElem?_modify,h,Sort.onCells]
end Go.Proofs.YtiinlplgloaanaaGreatDoor
/- Chapter 7 in the heap: rows of elements of many cells, in general; sets of edges in three words; the smallest functions. -/
namespace Go.Proofs.YtiinlplgloaanaaGreatDoor
set_option linter.all false
open Go.RowKit
/-! ### Rows in general -/
structure REnc (α:Type) where
 ty:TypeId
 n:Nat
 vals:α→List Value
 len:∀ x,(vals x).length=n
 one:∀ x,∀ u∈vals x,u.oneCell'=true
theorem addr_twice (a:Addr) (m j:Nat):(a.add m).add j=a.add (m+j):=by
 unfold Addr.add
 by_cases hm:m=0
 ·subst hm; simp
 ·by_cases hj:j=0
  ·subst hj; simp
  ·rw [if_neg hm,if_neg hj,if_neg (by omega)]; simp; omega
theorem run_loadVar_at {P:Program} (w:World) (a:Addr) (ty:TypeId) (cs:List Value) (d:TypeDesc) (hc:∀ j v,cs[j]?=some v→w.cell? (a.add j)=some v)
  (hu:P.underlying ty=some d) (hd:d.isRow=true) (hi:(P.info? ty).map (·.size)=some cs.length):(loadVar ty a).run P w=.ok (.agg cs.toArray) w:=by
 have hl:(loadCells a cs.length).run P w=.ok cs.toArray w:=run_loadCells_list (P:=P) w a cs hc
 cases hq:P.info? ty with
 | none=>simp [hq] at hi
 | some i =>
  have hs:i.size=cs.length:=by simpa [hq] using hi
  have hagg:(isAgg ty).run P w=.ok true w:=by
   unfold isAgg
   rw [Sem.run_bind,run_underlying hu w]
   cases d <;> simp_all
  simp [loadVar,Sem.run_bind,hagg,sizeOf,typeInfo,hq,hs,hl]
namespace REnc
variable {α:Type} (R:REnc α)
def val (x:α):Value:=.agg (R.vals x).toArray
def cells (l:List α):List Value:=l.flatMap R.vals
theorem cells_length (l:List α):(R.cells l).length=l.length*R.n:=by
 induction l with
 | nil=>simp [cells]
 | cons a l ih=>simp only [cells,List.flatMap_cons,List.length_append,List.length_cons] at ih ⊢; rw [ih,R.len,Nat.add_mul]; omega
theorem cells_get:∀ {l:List α} {i:Nat} {x:α},l[i]?=some x→∀ j,j<R.n→(R.cells l)[i*R.n+j]?=(R.vals x)[j]?
 | a :: l,0,x,h,j,hj=>by
  simp at h; subst h
  simp only [cells,List.flatMap_cons,Nat.zero_mul,Nat.zero_add]
  rw [List.getElem?_append_left (by rw [R.len]; exact hj)]
 | a :: l,i+1,x,h,j,hj=>by
  have:=cells_get (l:=l) (i:=i) (by simpa using h) j hj
  simp only [cells,List.flatMap_cons] at this ⊢
  rw [List.getElem?_append_right (by rw [R.len,Nat.add_mul]; omega)]
  have e:(i+1)*R.n+j-(R.vals a).length=i*R.n+j:=by rw [R.len,Nat.add_mul]; omega
  rw [e]; exact this
theorem cells_snoc (l:List α) (x:α):R.cells (l++[x])=R.cells l++R.vals x:=by simp [cells]
theorem vals_lt {x:α} {j:Nat} {u:Value} (h:(R.vals x)[j]?=some u):j<R.n:=by rw [← R.len x]; exact (List.getElem?_eq_some_iff.1 h).1
abbrev Own (W:World) (base:Nat) (v:Value) (l:List α):Prop:=W.ownsRow base R.ty R.n v l.length (R.cells l)
theorem own_snoc {W:World} {base:Nat} {v:Value} {l:List α} {x:α} (h:W.ownsRow base R.ty R.n v (l.length+1) (R.cells l++R.vals x)):R.Own W base v (l++[x]):=by
 show W.ownsRow base _ R.n v (l++[x]).length (R.cells (l++[x]))
 rw [R.cells_snoc,List.length_append]; exact h
theorem own_nil (W:World) (base:Nat):R.Own W base (.slice none 0 0) []:=World.ownsRow_nil W base _ R.n
structure At (W:World) (a:Addr) (l:List α):Prop where
 lt:l≠[]→a.block<W.heap.size
 at_:∀ (i:Nat) (x:α),l[i]?=some x→∀ (j:Nat) (u:Value),(R.vals x)[j]?=some u→W.cell? (a.add (i*R.n+j))=some u
def Has (W:World) (v:Value) (l:List α):Prop :=
 (v=.slice none 0 0∧l=[])∨∃ (a:Addr) (cap:Nat),v=.slice (some a) l.length cap∧l.length≤cap∧cap≤maxLen∧R.At W a l
variable {R}
theorem At.move {W W':World} {a:Addr} {l:List α} (h:R.At W a l) (e:W'.heap[a.block]?=W.heap[a.block]?):R.At W' a l:=by
 refine ⟨λ hl=>?_,λ i x hx j u hu=>?_⟩
 ·have:=h.lt hl
  have h1:W.heap[a.block]?=some W.heap[a.block]:=Array.getElem?_eq_getElem this
  exact (Array.getElem?_eq_some_iff.1 (e.trans h1)).1
 ·exact (cell_of_block (x:=a.add (i*R.n+j)) (by rw [block_add,e])).trans (h.at_ i x hx j u hu)
theorem At.below {W W':World} {a:Addr} {l:List α} (h:R.At W a l) (e:Below W.heap.size W W'):R.At W' a l:=by
 by_cases hl:l=[]
 ·subst hl; exact ⟨λ h=>absurd rfl h,λ i x hx=>by simp at hx⟩
 ·exact h.move (e.block _ (h.lt hl))
theorem Has.below {W W':World} {v:Value} {l:List α} (h:R.Has W v l) (e:Below W.heap.size W W'):R.Has W' v l:=by
 rcases h with h | ⟨a,cap,h1,h2,h3,h4⟩
 ·exact .inl h
 ·exact .inr ⟨a,cap,h1,h2,h3,h4.below e⟩
theorem Has.slice {W:World} {v:Value} {l:List α} (h:R.Has W v l):∃ p c,v=.slice p l.length c:=by
 rcases h with ⟨rfl,rfl⟩ | ⟨a,c,rfl,_⟩
 ·exact ⟨_,_,rfl⟩
 ·exact ⟨_,_,rfl⟩
theorem Own.has {W:World} {base:Nat} {v:Value} {l:List α} (h:R.Own W base v l):R.Has W v l:=by
 rcases h.2 with ⟨rfl,h0⟩ | ⟨g,cap,cur,rfl,h1,h2,h3,h4,h5⟩
 ·exact .inl ⟨rfl,List.length_eq_zero_iff.1 h0⟩
 ·refine .inr ⟨_,cap,rfl,h3,h4,λ _=>(h.lt g rfl).2,λ i x hx j u hu=>?_⟩
  have hc:=World.ownsRow.cells h (g:=g) rfl
  refine hc _ _ ?_
  rw [R.cells_get hx j (R.vals_lt hu)]; exact hu
theorem At.elem {W:World} {a:Addr} {l:List α} (h:R.At W a l) {i:Nat} {x:α} (hx:l[i]?=some x):∀ j v,(R.vals x)[j]?=some v→W.cell? ((a.add (i*R.n)).add j)=some v:=by
 intro j v hv
 rw [addr_twice]; exact h.at_ i x hx j v hv
theorem Has.at_ {W:World} {p:Option Addr} {n c:Nat} {l:List α} (h:R.Has W (.slice p n c) l) (hl:l≠[]):∃ a,p=some a∧R.At W a l:=by
 rcases h with ⟨_,h⟩ | ⟨a,cap,h1,_,_,h4⟩
 ·exact absurd h hl
 ·simp only [Value.slice.injEq] at h1; exact ⟨a,h1.1,h4⟩
end REnc
theorem run_load_elem {α:Type} {R:REnc α} {P:Program} {d:TypeDesc} (hu:P.underlying R.ty=some d) (hd:d.isRow=true) (hi:(P.info? R.ty).map (·.size)=some R.n)
  {W:World} {a:Addr} {l:List α} (h:R.At W a l) {i:Nat} {x:α} (hx:l[i]?=some x):(Instr.loadAt R.ty (.pointer (some (a.add (i*R.n))))).run P W=.ok (R.val x) W:=by
 have:=run_loadVar_at (P:=P) W (a.add (i*R.n)) R.ty (R.vals x) d (h.elem hx) hu hd (by rw [R.len]; exact hi)
 simp only [Instr.loadAt,Instr.sureAddr,Sem.run_bind,Sem.run_pure,Result.andThen_ok,this,REnc.val]
section laws
variable {F:Fence} {nF:Nat} {P:Program} {ops:Array Oper} {rest:List Oper} {o:Oper} {a:Act} {w:World} {Q:Exit→Act→World→Prop}
theorem wpListIn_load_is (hgd:o.guard=none) (ty:TypeId) (x:Operand) (ho:o.op=.load ty x) {p:Value} (hx:a.eval x=p) {v:Value} (hv:(Instr.loadAt ty p).run P w=.ok v w)
  (h:wpListIn F nF P ops Q rest (a.put o.dst v) w):wpListIn F nF P ops Q (o :: rest) a w:=by
 refine wpListIn_plain hgd λ _ hK=>⟨λ f hf=>(by rw [about_load ho] at hf; cases hf),?_⟩
 rw [Oper.semAt_eq _ _ _ (λ c=>by rw [ho]; simp)]
 unfold execOp
 simp only [ho,hx,Sem.run_bind,hv,Sem.run_pure,Result.andThen_ok]
 exact hK _ _ h
theorem wpList_load_is (hgd:o.guard=none) (ty:TypeId) (x:Operand) (ho:o.op=.load ty x) {p:Value} (hx:a.eval x=p) {v:Value} (hv:(Instr.loadAt ty p).run P w=.ok v w)
  (h:wpList P ops Q rest (a.put o.dst v) w):wpList P ops Q (o :: rest) a w:=by
 refine wpList_plain hgd λ _ hK=>?_
 unfold Oper.wp execOp
 simp only [ho,hx,Sem.run_bind,hv,Sem.run_pure,Result.andThen_ok]
 exact hK _ _ h
end laws
/-! ### Sets of edges: three words -/
abbrev W3:=Nat × Nat × Nat
def w3V (x:W3):Value:=.agg #[.int .u64 x.1,.int .u64 x.2.1,.int .u64 x.2.2]
def orW (x y:W3):W3:=(x.1 ||| y.1,x.2.1 ||| y.2.1,x.2.2 ||| y.2.2)
def andW (x y:W3):W3:=(x.1 &&& y.1,x.2.1 &&& y.2.1,x.2.2 &&& y.2.2)
def okW (x:W3):Prop:=x.1<2 ^ 64∧x.2.1<2 ^ 64∧x.2.2<2 ^ 64
end Go.Proofs.YtiinlplgloaanaaGreatDoor
/- DERIVED: THE SHELF's CONTRACTS AT THIS DUMP, IN PLAIN WORDS (tools/lay-plain.mjs out of 'TryzShelf.lean', which tools/lay-shelf.mjs wrote): THE SAME DECLARATIONS UNDER THE SAME NAMES: 'import', 'namespace', 'open', 'def', 'theorem' AND NOTHING ELSE: no command of the shelf's: FOR A HAND-IN. Each laying: the table of numbers ('.._ren') and one theorem, a field a fact of the dump's own or the kernel's comparison; each contract: ONE APPLICATION. -/
namespace Go.Proofs
open Go.Shelf
def Tryz.lays156_ren:Go.Shelf.Ren:=⟨λ | 156=>98 | 165=>130 | 166=>131 | 169=>121 | 240=>153 | 241=>177 | 276=>195 | 277=>207 | n=>n,λ | 31=>110 | 9=>9 | 3=>3 | 4=>4 | 0=>0 | 20=>20 | 72=>207 | 76=>217 | 70=>205 | 37=>37 | 75=>209 | 127=>237 | 164=>269 | 5=>5 | 80=>172 | n=>n,λ | n=>n⟩
theorem Tryz.lays156:Go.Proofs.Lays.n156 Tryz.prog Tryz.lays156_ren:={
 mixed:=by kernel_rfl
 f156:=Tryz.func98.trans (congrArg some (by kernel_rfl))
 f165:=Tryz.func130.trans (congrArg some (by kernel_rfl))
 f166:=Tryz.func131.trans (congrArg some (by kernel_rfl))
 f169:=Tryz.func121.trans (congrArg some (by kernel_rfl))
 f240:=Tryz.func153.trans (congrArg some (by kernel_rfl))
 f241:=Tryz.func177.trans (congrArg some (by kernel_rfl))
 f276:=Tryz.func195.trans (congrArg some (by kernel_rfl))
 f277:=Tryz.func207.trans (congrArg some (by kernel_rfl))
 t0:=Tryz.underlying0
 a0:=Tryz.isAgg0
 z0:=Tryz.sizeOf0
 v0:=Tryz.zeroValue0
 t3:=Tryz.underlying3
 a3:=Tryz.isAgg3
 z3:=Tryz.sizeOf3
 v3:=Tryz.zeroValue3
 t4:=Tryz.underlying4
 a4:=Tryz.isAgg4
 z4:=Tryz.sizeOf4
 v4:=Tryz.zeroValue4
 t9:=Tryz.underlying9
 a9:=Tryz.isAgg9
 z9:=Tryz.sizeOf9
 v9:=Tryz.zeroValue9
 t20:=Tryz.underlying20
 a20:=Tryz.isAgg20
 z20:=Tryz.sizeOf20
 v20:=Tryz.zeroValue20
 t31:=Tryz.underlying110
 a31:=Tryz.isAgg110
 z31:=Tryz.sizeOf110
 v31:=Tryz.zeroValue110
 t37:=Tryz.underlying37
 a37:=Tryz.isAgg37
 z37:=Tryz.sizeOf37
 v37:=Tryz.zeroValue37
 t70:=Tryz.underlying205
 a70:=Tryz.isAgg205
 z70:=Tryz.sizeOf205
 v70:=Tryz.zeroValue205
 t72:=Tryz.underlying207
 a72:=Tryz.isAgg207
 z72:=Tryz.sizeOf207
 v72:=Tryz.zeroValue207
 t75:=Tryz.underlying209
 a75:=Tryz.isAgg209
 z75:=Tryz.sizeOf209
 v75:=Tryz.zeroValue209
 t76:=Tryz.underlying217
 a76:=Tryz.isAgg217
 z76:=Tryz.sizeOf217
 v76:=Tryz.zeroValue217
 t127:=Tryz.underlying237
 a127:=Tryz.isAgg237
 z127:=Tryz.sizeOf237
 v127:=Tryz.zeroValue237
 t164:=Tryz.underlying269
 a164:=Tryz.isAgg269
 z164:=Tryz.sizeOf269
 v164:=Tryz.zeroValue269 }
theorem Tryz.Builder_Extra_156:Builder.Extra Tryz.prog Tryz.lays156_ren:={
 sizeBuilder:=by kernel_rfl
 liesBuilder:=by kernel_rfl
 t5:=Tryz.underlying5
 a5:=Tryz.isAgg5
 z5:=Tryz.sizeOf5
 v5:=Tryz.zeroValue5
 infoByte:=by kernel_rfl
 cellsByte:=by kernel_rfl
 sizeByte:=by kernel_rfl
 neB5:=by decide }
open Go.RowKit in
theorem Tryz.strings_Join_none (a:Option Addr) (c:Nat) (sep:ByteArray) (w:World) :
  Calls Tryz.prog 98 #[.slice a 0 c,.string sep] w λ e w'=>e=.returned (.string ⟨#[]⟩)∧w'=w:=Any.strings_Join_none Tryz.lays156 Tryz.Builder_Extra_156 a c sep w
open Go.RowKit in
theorem Tryz.strings_Join (bk o c:Nat) (xs:List ByteArray) (sep:ByteArray) (w:World) (hcells:∀ (j:Nat) x,xs[j]?=some x→w.cell? ⟨bk,o+j,none⟩=some (.string x)) (hbk:bk<w.heap.size) (hN:xs.length≤140737488355328) (hcap:xs.length≤c) (hlen:(Lib.join (xs.map (·.data.toList)) sep.data.toList).length≤140737488355328) :
  Calls Tryz.prog 98 #[.slice (some ⟨bk,o,none⟩) xs.length c,.string sep] w λ e w'=>e=.returned (.string ⟨(Lib.join (xs.map (·.data.toList)) sep.data.toList).toArray⟩)∧Below w.heap.size w w':=Any.strings_Join Tryz.lays156 Tryz.Builder_Extra_156 bk o c xs sep w hcells hbk hN hcap hlen
open Go.RowKit Go.Sort Go.Lib in
def Tryz.lays171_ren:Go.Shelf.Ren:=⟨λ | 171=>96 | 243=>128 | 246=>167 | 283=>163 | 284=>164 | 285=>165 | 286=>166 | 129=>148 | 317=>199 | 318=>200 | 319=>201 | 320=>202 | 337=>217 | 338=>126 | n=>n,λ | 3=>3 | 9=>9 | 2=>2 | 4=>4 | 171=>244 | 0=>0 | 53=>103 | 37=>37 | 5=>5 | 173=>246 | 212=>275 | 51=>234 | 20=>20 | 213=>276 | 46=>203 | 232=>295 | 233=>243 | n=>n,λ | 17=>3 | 18=>6 | 19=>1 | n=>n⟩
theorem Tryz.lays171:Go.Proofs.Lays.n171 Tryz.prog Tryz.lays171_ren:={
 mixed:=by kernel_rfl
 f129:=Tryz.func148.trans (congrArg some (by kernel_rfl))
 f171:=Tryz.func96.trans (congrArg some (by kernel_rfl))
 f243:=Tryz.func128.trans (congrArg some (by kernel_rfl))
 f246:=Tryz.func167.trans (congrArg some (by kernel_rfl))
 f283:=Tryz.func163.trans (congrArg some (by kernel_rfl))
 f284:=Tryz.func164.trans (congrArg some (by kernel_rfl))
 f285:=Tryz.func165.trans (congrArg some (by kernel_rfl))
 f286:=Tryz.func166.trans (congrArg some (by kernel_rfl))
 f317:=Tryz.func199.trans (congrArg some (by kernel_rfl))
 f318:=Tryz.func200.trans (congrArg some (by kernel_rfl))
 f319:=Tryz.func201.trans (congrArg some (by kernel_rfl))
 f320:=Tryz.func202.trans (congrArg some (by kernel_rfl))
 f337:=Tryz.func217.trans (congrArg some (by kernel_rfl))
 f338:=Tryz.func126.trans (congrArg some (by kernel_rfl))
 t0:=Tryz.underlying0
 a0:=Tryz.isAgg0
 z0:=Tryz.sizeOf0
 v0:=Tryz.zeroValue0
 t2:=Tryz.underlying2
 a2:=Tryz.isAgg2
 z2:=Tryz.sizeOf2
 v2:=Tryz.zeroValue2
 t3:=Tryz.underlying3
 a3:=Tryz.isAgg3
 z3:=Tryz.sizeOf3
 v3:=Tryz.zeroValue3
 t4:=Tryz.underlying4
 a4:=Tryz.isAgg4
 z4:=Tryz.sizeOf4
 v4:=Tryz.zeroValue4
 t5:=Tryz.underlying5
 a5:=Tryz.isAgg5
 z5:=Tryz.sizeOf5
 v5:=Tryz.zeroValue5
 t9:=Tryz.underlying9
 a9:=Tryz.isAgg9
 z9:=Tryz.sizeOf9
 v9:=Tryz.zeroValue9
 t20:=Tryz.underlying20
 a20:=Tryz.isAgg20
 z20:=Tryz.sizeOf20
 v20:=Tryz.zeroValue20
 t37:=Tryz.underlying37
 a37:=Tryz.isAgg37
 z37:=Tryz.sizeOf37
 v37:=Tryz.zeroValue37
 t46:=Tryz.underlying203
 a46:=Tryz.isAgg203
 z46:=Tryz.sizeOf203
 v46:=Tryz.zeroValue203
 t51:=Tryz.underlying234
 a51:=Tryz.isAgg234
 z51:=Tryz.sizeOf234
 v51:=Tryz.zeroValue234
 t53:=Tryz.underlying103
 a53:=Tryz.isAgg103
 z53:=Tryz.sizeOf103
 v53:=Tryz.zeroValue103
 t171:=Tryz.underlying244
 a171:=Tryz.isAgg244
 z171:=Tryz.sizeOf244
 v171:=Tryz.zeroValue244
 t173:=Tryz.underlying246
 a173:=Tryz.isAgg246
 z173:=Tryz.sizeOf246
 v173:=Tryz.zeroValue246
 t212:=Tryz.underlying275
 a212:=Tryz.isAgg275
 z212:=Tryz.sizeOf275
 v212:=Tryz.zeroValue275
 t213:=Tryz.underlying276
 a213:=Tryz.isAgg276
 z213:=Tryz.sizeOf276
 t232:=Tryz.underlying295
 a232:=Tryz.isAgg295
 z232:=Tryz.sizeOf295
 v232:=Tryz.zeroValue295
 t233:=Tryz.underlying243
 a233:=Tryz.isAgg243
 z233:=Tryz.sizeOf243
 v233:=Tryz.zeroValue243
 g17:=by kernel_rfl
 g18:=by kernel_rfl
 g19:=by kernel_rfl }
open Go.RowKit Go.Sort Go.Lib in
theorem Tryz.strconv_Itoa_small (i:Nat) (hi:i<100) (w:World) :
  Calls Tryz.prog 96 #[.int .i64 i] w λ e w'=>e=.returned (.string ⟨(Lib.decDigits i).toArray⟩)∧w'=w:=Any.strconv_Itoa_small Tryz.lays171 i hi w
def Tryz.lays190_ren:Go.Shelf.Ren:=⟨λ | 190=>97 | 125=>117 | 258=>129 | 128=>147 | 129=>148 | 302=>168 | 303=>169 | 304=>170 | 305=>171 | 306=>172 | 307=>173 | 308=>174 | 309=>175 | 310=>176 | 333=>203 | 329=>187 | 330=>188 | 334=>204 | 335=>205 | 336=>206 | 344=>218 | n=>n,λ | 31=>110 | 9=>9 | 3=>3 | 46=>203 | 0=>0 | 51=>234 | 53=>103 | 4=>4 | 183=>228 | 182=>227 | 131=>140 | 5=>5 | 218=>260 | 222=>264 | 228=>283 | 229=>284 | n=>n,λ | n=>n⟩
theorem Tryz.lays190:Go.Proofs.Lays.n190 Tryz.prog Tryz.lays190_ren:={
 mixed:=by kernel_rfl
 f125:=Tryz.func117.trans (congrArg some (by kernel_rfl))
 f128:=Tryz.func147.trans (congrArg some (by kernel_rfl))
 f129:=Tryz.func148.trans (congrArg some (by kernel_rfl))
 f190:=Tryz.func97.trans (congrArg some (by kernel_rfl))
 f258:=Tryz.func129.trans (congrArg some (by kernel_rfl))
 f302:=Tryz.func168.trans (congrArg some (by kernel_rfl))
 f303:=Tryz.func169.trans (congrArg some (by kernel_rfl))
 f304:=Tryz.func170.trans (congrArg some (by kernel_rfl))
 f305:=Tryz.func171.trans (congrArg some (by kernel_rfl))
 f306:=Tryz.func172.trans (congrArg some (by kernel_rfl))
 f307:=Tryz.func173.trans (congrArg some (by kernel_rfl))
 f308:=Tryz.func174.trans (congrArg some (by kernel_rfl))
 f309:=Tryz.func175.trans (congrArg some (by kernel_rfl))
 f310:=Tryz.func176.trans (congrArg some (by kernel_rfl))
 f329:=Tryz.func187.trans (congrArg some (by kernel_rfl))
 f330:=Tryz.func188.trans (congrArg some (by kernel_rfl))
 f333:=Tryz.func203.trans (congrArg some (by kernel_rfl))
 f334:=Tryz.func204.trans (congrArg some (by kernel_rfl))
 f335:=Tryz.func205.trans (congrArg some (by kernel_rfl))
 f336:=Tryz.func206.trans (congrArg some (by kernel_rfl))
 f344:=Tryz.func218.trans (congrArg some (by kernel_rfl))
 t0:=Tryz.underlying0
 a0:=Tryz.isAgg0
 z0:=Tryz.sizeOf0
 v0:=Tryz.zeroValue0
 t3:=Tryz.underlying3
 a3:=Tryz.isAgg3
 z3:=Tryz.sizeOf3
 v3:=Tryz.zeroValue3
 t4:=Tryz.underlying4
 a4:=Tryz.isAgg4
 z4:=Tryz.sizeOf4
 v4:=Tryz.zeroValue4
 t5:=Tryz.underlying5
 a5:=Tryz.isAgg5
 z5:=Tryz.sizeOf5
 v5:=Tryz.zeroValue5
 t9:=Tryz.underlying9
 a9:=Tryz.isAgg9
 z9:=Tryz.sizeOf9
 v9:=Tryz.zeroValue9
 t31:=Tryz.underlying110
 a31:=Tryz.isAgg110
 z31:=Tryz.sizeOf110
 v31:=Tryz.zeroValue110
 t46:=Tryz.underlying203
 a46:=Tryz.isAgg203
 z46:=Tryz.sizeOf203
 v46:=Tryz.zeroValue203
 t51:=Tryz.underlying234
 a51:=Tryz.isAgg234
 z51:=Tryz.sizeOf234
 v51:=Tryz.zeroValue234
 t53:=Tryz.underlying103
 a53:=Tryz.isAgg103
 z53:=Tryz.sizeOf103
 v53:=Tryz.zeroValue103
 t131:=Tryz.underlying140
 a131:=Tryz.isAgg140
 z131:=Tryz.sizeOf140
 v131:=Tryz.zeroValue140
 t182:=Tryz.underlying227
 a182:=Tryz.isAgg227
 z182:=Tryz.sizeOf227
 v182:=Tryz.zeroValue227
 t183:=Tryz.underlying228
 a183:=Tryz.isAgg228
 z183:=Tryz.sizeOf228
 v183:=Tryz.zeroValue228
 t218:=Tryz.underlying260
 a218:=Tryz.isAgg260
 z218:=Tryz.sizeOf260
 v218:=Tryz.zeroValue260
 t222:=Tryz.underlying264
 a222:=Tryz.isAgg264
 z222:=Tryz.sizeOf264
 v222:=Tryz.zeroValue264
 t228:=Tryz.underlying283
 a228:=Tryz.isAgg283
 z228:=Tryz.sizeOf283
 v228:=Tryz.zeroValue283
 t229:=Tryz.underlying284
 a229:=Tryz.isAgg284
 z229:=Tryz.sizeOf284
 v229:=Tryz.zeroValue284 }
open Go.Sort Go.RowKit in
theorem Tryz.slices_Sort_string (blk off cap:Nat) (ss:List (List UInt8)) (w:World) (hH:Holds encStr w blk off ss.toArray) (hblk:blk<w.heap.size) (hsz:ss.length<4611686018427387904) :
  Calls Tryz.prog 97 #[.slice (some ⟨blk,off,none⟩) ss.length cap] w λ e w' =>
   e=.returned (.tuple #[])∧∃ n os,w'=grow (putRow encStr (Sort.ahead w n) blk off (ss.mergeSort λ x y=>decide (x≤y)).toArray) os:=Any.slices_Sort_string Tryz.lays190 blk off cap ss w hH hblk hsz
def Tryz.lays111_ren:Go.Shelf.Ren:=⟨λ | 111=>122 | n=>n,λ | 28=>30 | 3=>3 | 4=>4 | 0=>0 | n=>n,λ | n=>n⟩
theorem Tryz.lays111:Go.Proofs.Lays.n111 Tryz.prog Tryz.lays111_ren:={
 mixed:=by kernel_rfl
 f111:=Tryz.func122.trans (congrArg some (by kernel_rfl))
 t0:=Tryz.underlying0
 a0:=Tryz.isAgg0
 z0:=Tryz.sizeOf0
 v0:=Tryz.zeroValue0
 t3:=Tryz.underlying3
 a3:=Tryz.isAgg3
 z3:=Tryz.sizeOf3
 v3:=Tryz.zeroValue3
 t4:=Tryz.underlying4
 a4:=Tryz.isAgg4
 z4:=Tryz.sizeOf4
 v4:=Tryz.zeroValue4
 t28:=Tryz.underlying30
 a28:=Tryz.isAgg30
 z28:=Tryz.sizeOf30
 v28:=Tryz.zeroValue30 }
open Go.RowKit Go.Lib in
theorem Tryz.slices_Equal_int (b1 o1 n c b2 o2 m d:Nat) (xs ys:List Int) (w:World) (hx:n≤xs.length) (hy:m≤ys.length) (hbig:n≤9223372036854775807) (hbig2:m≤9223372036854775807) (hc1:∀ j,j<xs.length→w.cell? ⟨b1,o1+j,none⟩=some (.int .i64 (xs.getD j 0))) (hc2:∀ j,j<ys.length→w.cell? ⟨b2,o2+j,none⟩=some (.int .i64 (ys.getD j 0))) :
  Calls Tryz.prog 122 #[.slice (some ⟨b1,o1,none⟩) n c,.slice (some ⟨b2,o2,none⟩) m d] w λ e w'=>e=.returned (.bool (xs.take n==ys.take m))∧∃ q,w'=w.drewN q:=Any.slices_Equal_int Tryz.lays111 b1 o1 n c b2 o2 m d xs ys w hx hy hbig hbig2 hc1 hc2
open Go.RowKit Go.Lib in
open Go.RowKit Go.Sort in
theorem Tryz.slices_Sort_string_none (p:Option Addr) (cap:Nat) (w:World) :
  Calls Tryz.prog 97 #[.slice p 0 cap] w λ e w'=>e=.returned (.tuple #[])∧w'=w:=Any.slices_Sort_string_none Tryz.lays190 p cap w
open Go.RowKit Go.Lib in
def Tryz.laysTz_ren:Go.Shelf.Ren:=⟨λ | 29=>126 | n=>n,λ | 22=>103 | 3=>3 | 4=>4 | 25=>203 | 54=>243 | 0=>0 | 5=>5 | n=>n,λ | 1=>1 | n=>n⟩
theorem Tryz.laysTz:Go.Proofs.Lays7.n29 Tryz.prog Tryz.laysTz_ren:={
 mixed:=by kernel_rfl
 f29:=Tryz.func126.trans (congrArg some (by kernel_rfl))
 t0:=Tryz.underlying0
 a0:=Tryz.isAgg0
 z0:=Tryz.sizeOf0
 v0:=Tryz.zeroValue0
 i0:=by kernel_rfl
 t3:=Tryz.underlying3
 a3:=Tryz.isAgg3
 z3:=Tryz.sizeOf3
 v3:=Tryz.zeroValue3
 i3:=by kernel_rfl
 t4:=Tryz.underlying4
 a4:=Tryz.isAgg4
 z4:=Tryz.sizeOf4
 v4:=Tryz.zeroValue4
 i4:=by kernel_rfl
 t5:=Tryz.underlying5
 a5:=Tryz.isAgg5
 z5:=Tryz.sizeOf5
 v5:=Tryz.zeroValue5
 i5:=by kernel_rfl
 t22:=Tryz.underlying103
 a22:=Tryz.isAgg103
 z22:=Tryz.sizeOf103
 v22:=Tryz.zeroValue103
 i22:=by kernel_rfl
 t25:=Tryz.underlying203
 a25:=Tryz.isAgg203
 z25:=Tryz.sizeOf203
 v25:=Tryz.zeroValue203
 i25:=by kernel_rfl
 t54:=Tryz.underlying243
 a54:=Tryz.isAgg243
 z54:=Tryz.sizeOf243
 g1:=by kernel_rfl }
def Tryz.sortPc_ren:Go.Shelf.Ren:=⟨λ | 6=>91 | 15=>117 | 14=>124 | 28=>147 | 29=>148 | 20=>155 | 21=>156 | 22=>157 | 23=>158 | 24=>159 | 25=>160 | 26=>161 | 27=>162 | 46=>196 | 47=>187 | 48=>188 | 49=>197 | 50=>198 | 57=>216 | n=>n,λ | 22=>102 | 24=>152 | 25=>178 | 3=>3 | 39=>203 | 0=>0 | 53=>234 | 55=>103 | 4=>4 | 46=>228 | 45=>227 | 50=>140 | 5=>5 | 9=>9 | 66=>260 | 70=>264 | 76=>283 | 77=>284 | n=>n,λ | n=>n⟩
theorem Tryz.sortPc:Go.Proofs.SlLaysF0.n6 Tryz.prog Tryz.sortPc_ren:={
 mixed:=by kernel_rfl
 f6:=⟨Tryz.f91.name,by decide,Tryz.func91.trans (congrArg some (by kernel_rfl))⟩
 f14:=⟨Tryz.f124.name,by decide,Tryz.func124.trans (congrArg some (by kernel_rfl))⟩
 f15:=Tryz.func117.trans (congrArg some (by kernel_rfl))
 f20:=⟨Tryz.f155.name,by decide,Tryz.func155.trans (congrArg some (by kernel_rfl))⟩
 f21:=⟨Tryz.f156.name,by decide,Tryz.func156.trans (congrArg some (by kernel_rfl))⟩
 f22:=⟨Tryz.f157.name,by decide,Tryz.func157.trans (congrArg some (by kernel_rfl))⟩
 f23:=⟨Tryz.f158.name,by decide,Tryz.func158.trans (congrArg some (by kernel_rfl))⟩
 f24:=⟨Tryz.f159.name,by decide,Tryz.func159.trans (congrArg some (by kernel_rfl))⟩
 f25:=⟨Tryz.f160.name,by decide,Tryz.func160.trans (congrArg some (by kernel_rfl))⟩
 f26:=⟨Tryz.f161.name,by decide,Tryz.func161.trans (congrArg some (by kernel_rfl))⟩
 f27:=⟨Tryz.f162.name,by decide,Tryz.func162.trans (congrArg some (by kernel_rfl))⟩
 f28:=Tryz.func147.trans (congrArg some (by kernel_rfl))
 f29:=Tryz.func148.trans (congrArg some (by kernel_rfl))
 f46:=⟨Tryz.f196.name,by decide,Tryz.func196.trans (congrArg some (by kernel_rfl))⟩
 f47:=Tryz.func187.trans (congrArg some (by kernel_rfl))
 f48:=Tryz.func188.trans (congrArg some (by kernel_rfl))
 f49:=⟨Tryz.f197.name,by decide,Tryz.func197.trans (congrArg some (by kernel_rfl))⟩
 f50:=⟨Tryz.f198.name,by decide,Tryz.func198.trans (congrArg some (by kernel_rfl))⟩
 f57:=⟨Tryz.f216.name,by decide,Tryz.func216.trans (congrArg some (by kernel_rfl))⟩
 t0:=Tryz.underlying0
 a0:=Tryz.isAgg0
 z0:=Tryz.sizeOf0
 v0:=Tryz.zeroValue0
 t3:=Tryz.underlying3
 a3:=Tryz.isAgg3
 z3:=Tryz.sizeOf3
 v3:=Tryz.zeroValue3
 t4:=Tryz.underlying4
 a4:=Tryz.isAgg4
 z4:=Tryz.sizeOf4
 v4:=Tryz.zeroValue4
 t5:=Tryz.underlying5
 a5:=Tryz.isAgg5
 z5:=Tryz.sizeOf5
 v5:=Tryz.zeroValue5
 t9:=Tryz.underlying9
 a9:=Tryz.isAgg9
 z9:=Tryz.sizeOf9
 v9:=Tryz.zeroValue9
 t22:=Tryz.underlying102
 a22:=Tryz.isAgg102
 z22:=Tryz.sizeOf102
 v22:=Tryz.zeroValue102
 t25:=Tryz.underlying178
 a25:=Tryz.isAgg178
 z25:=Tryz.sizeOf178
 v25:=Tryz.zeroValue178
 t39:=Tryz.underlying203
 a39:=Tryz.isAgg203
 z39:=Tryz.sizeOf203
 v39:=Tryz.zeroValue203
 t45:=Tryz.underlying227
 a45:=Tryz.isAgg227
 z45:=Tryz.sizeOf227
 v45:=Tryz.zeroValue227
 t46:=Tryz.underlying228
 a46:=Tryz.isAgg228
 z46:=Tryz.sizeOf228
 v46:=Tryz.zeroValue228
 t50:=Tryz.underlying140
 a50:=Tryz.isAgg140
 z50:=Tryz.sizeOf140
 v50:=Tryz.zeroValue140
 t53:=Tryz.underlying234
 a53:=Tryz.isAgg234
 z53:=Tryz.sizeOf234
 v53:=Tryz.zeroValue234
 t55:=Tryz.underlying103
 a55:=Tryz.isAgg103
 z55:=Tryz.sizeOf103
 v55:=Tryz.zeroValue103
 t66:=Tryz.underlying260
 a66:=Tryz.isAgg260
 z66:=Tryz.sizeOf260
 v66:=Tryz.zeroValue260
 t70:=Tryz.underlying264
 a70:=Tryz.isAgg264
 z70:=Tryz.sizeOf264
 v70:=Tryz.zeroValue264
 t76:=Tryz.underlying283
 a76:=Tryz.isAgg283
 z76:=Tryz.sizeOf283
 v76:=Tryz.zeroValue283
 t77:=Tryz.underlying284
 a77:=Tryz.isAgg284
 z77:=Tryz.sizeOf284
 v77:=Tryz.zeroValue284 }
end Go.Proofs
/- Plain maths: edges and pieces of a shape that is moved. -/
namespace Go.Proofs.YtiinlplgloaanaaGreatDoor
set_option linter.all false
open Go.RowKit
/-! ### Edges under a movement -/
def okK (e:E):Prop:=0≤e.k∧e.k<6
theorem okK_edge {q:Q} (h:okS q) {e:E} (he:e∈edgesQ q):okK e:=by
 obtain ⟨x,y,s⟩:=q
 unfold okS at h; simp only at h
 simp only [edgesQ,sideE,List.mem_cons,List.not_mem_nil,or_false] at he
 unfold okK
 rcases he with rfl | rfl | rfl <;> simp only <;> omega
structure MovesE (f:Q→Q) (g:E→E):Prop where
 ok:∀ q,okS q→okS (f q)
 okE:∀ e,okK e→okK (g e)
 inj:∀ p q,okS p→okS q→f p=f q→p=q
 injE:∀ a b,okK a→okK b→g a=g b→a=b
 edge:∀ q,okS q→∀ e,e∈edgesQ (f q)↔∃ a∈edgesQ q,g a=e
/-! ### A shape and what it becomes -/
structure IsoQ (s t:List Q) (f:Q→Q) (g:E→E):Prop where
 moves:MovesE f g
 ok:∀ q∈s,okS q
 onto:∀ r,r∈t↔∃ q∈s,f q=r
 ns:s.Nodup
 nt:t.Nodup
theorem IsoQ.share {s t:List Q} {f:Q→Q} {g:E→E} (h:IsoQ s t f g) {p q:Q} (hp:p∈s) (hq:q∈s):shareE (f p) (f q)↔shareE p q:=by
 constructor
 ·rintro ⟨e,h1,h2⟩
  obtain ⟨a,a1,a2⟩:=(h.moves.edge p (h.ok p hp) e).1 h1
  obtain ⟨b,b1,b2⟩:=(h.moves.edge q (h.ok q hq) e).1 h2
  have:=h.moves.injE a b (okK_edge (h.ok p hp) a1) (okK_edge (h.ok q hq) b1) (a2.trans b2.symm)
  exact ⟨a,a1,this▸b1⟩
 ·rintro ⟨e,h1,h2⟩
  exact ⟨g e,(h.moves.edge p (h.ok p hp) _).2 ⟨e,h1,rfl⟩,(h.moves.edge q (h.ok q hq) _).2 ⟨e,h2,rfl⟩⟩
theorem IsoQ.conn {s t:List Q} {f:Q→Q} {g:E→E} (h:IsoQ s t f g) {p q:Q} (hc:Conn s p q):Conn t (f p) (f q):=by
 induction hc with
 | refl hp=>exact .refl ((h.onto _).2 ⟨_,hp,rfl⟩)
 | step h1 h2 h3 ih=>exact ih.step ((h.onto _).2 ⟨_,h2,rfl⟩) ((h.share h1.right h2).2 h3)
end Go.Proofs.YtiinlplgloaanaaGreatDoor
/- Plain maths: counting the edges of many shapes; pieces have no joints. -/
namespace Go.Proofs.YtiinlplgloaanaaGreatDoor
set_option linter.all false
open Go.RowKit
/-! ### Counting the edges of many shapes -/
theorem same_len {α:Type} [DecidableEq α] {l m:List α} (h1:l.Nodup) (h2:m.Nodup) (h:∀ x,x∈l↔x∈m):l.length=m.length :=
 Nat.le_antisymm (nodup_le h1 λ x hx=>(h x).1 hx) (nodup_le h2 λ x hx=>(h x).2 hx)
theorem who_flat (ls:List (List Q)) (e:E):(whoE ls.flatten e).length=(ls.map λ l=>(whoE l e).length).sum:=by
 induction ls with
 | nil=>rfl
 | cons l ls ih =>
  have:whoE (l :: ls).flatten e=whoE l e++whoE ls.flatten e:=by unfold whoE; rw [List.flatten_cons,List.filter_append]
  rw [this,List.length_append,ih,List.map_cons,List.sum_cons]
theorem ones_twos (c:List Nat) (h:∀ n∈c,n≤2):c.sum=(c.filter (·==1)).length+2*(c.filter (·==2)).length:=by
 induction c with
 | nil=>rfl
 | cons n c ih =>
  have h1:=ih λ m hm=>h m (by simp [hm])
  have h2:=h n (by simp)
  rcases (by omega:n=0∨n=1∨n=2) with rfl | rfl | rfl <;> simp <;> omega
theorem le_sum {n:Nat}:∀ {c:List Nat},n∈c→n≤c.sum
 | [],h=>by cases h
 | a :: c,h=>by
  rw [List.sum_cons]
  rcases List.mem_cons.1 h with rfl | h
  ·omega
  ·have:=le_sum h; omega
theorem who_le {f:List Q} (hn:f.Nodup) (hq:∀ q∈f,inQ q) (e:E):(whoE f e).length≤2:=by
 have hnd:(whoE f e).Nodup:=hn.sublist List.filter_sublist
 have hmem:∀ r∈whoE f e,inQ r∧e∈edgesQ r:=λ r hr=>by
  obtain ⟨r1,r2⟩:=List.mem_filter.1 hr
  exact ⟨hq r r1,by simpa using r2⟩
 generalize whoE f e=W at hnd hmem
 rcases W with _ | ⟨a,_ | ⟨b,_ | ⟨c,t⟩⟩⟩
 ·simp
 ·simp
 ·simp
 ·simp only [List.nodup_cons,List.mem_cons,not_or] at hnd
  obtain ⟨a1,a2⟩:=hmem a (by simp)
  obtain ⟨b1,b2⟩:=hmem b (by simp)
  obtain ⟨c1,c2⟩:=hmem c (by simp)
  rcases edge_third a1 b1 c1 a2 b2 c2 hnd.1.1 with h | h
  ·exact absurd h.symm hnd.1.2.1
  ·exact absurd h.symm hnd.2.1.1
theorem edge_count {ls:List (List Q)} (hn:ls.flatten.Nodup) (hq:∀ q∈ls.flatten,inQ q) (e:E) :
  (ls.filter λ l=>oneP (whoE l e)).length=(if oneP (whoE ls.flatten e) then 1 else 0)+2*(if jointP (shapesFrom 0 ls) (whoE ls.flatten e) then 1 else 0):=by
 have hle:=who_le hn hq e
 have hsum:=who_flat ls e
 have hc:=ones_twos (ls.map λ l=>(whoE l e).length) (λ n hnc=>by have:=le_sum hnc; omega)
 have e1:((ls.map λ l=>(whoE l e).length).filter (·==1)).length=(ls.filter λ l=>oneP (whoE l e)).length:=by
  rw [List.filter_map,List.length_map]
  congr 1
 have e2:((ls.map λ l=>(whoE l e).length).filter (·==2)).length=(ls.filter λ l=>decide ((whoE l e).length=2)).length:=by
  rw [List.filter_map,List.length_map]
  congr 1
 rw [e1,e2,← hsum] at hc
 have hwm:∀ r∈whoE ls.flatten e,r∈ls.flatten∧e∈edgesQ r:=λ r hr=>by
  obtain ⟨r1,r2⟩:=List.mem_filter.1 hr
  exact ⟨r1,by simpa using r2⟩
 have hwn:(whoE ls.flatten e).Nodup:=hn.sublist List.filter_sublist
 have hback:∀ l∈ls,∀ r∈whoE l e,r∈whoE ls.flatten e:=λ l hl r hr=>by
  obtain ⟨r1,r2⟩:=List.mem_filter.1 hr
  exact List.mem_filter.2 ⟨List.mem_flatten.2 ⟨l,hl,r1⟩,r2⟩
 generalize whoE ls.flatten e=W at *
 rcases W with _ | ⟨a,_ | ⟨b,_ | ⟨c,t⟩⟩⟩
 ·rw [if_neg (by simp [oneP]),if_neg (by simp [jointP])]
  simp only [List.length_nil] at hc; omega
 ·rw [if_pos (by simp [oneP]),if_neg (by simp [jointP])]
  simp only [List.length_cons,List.length_nil] at hc; omega
 ·obtain ⟨a1,a2⟩:=hwm a (by simp)
  obtain ⟨b1,b2⟩:=hwm b (by simp)
  obtain ⟨l,hl,hal⟩:=List.mem_flatten.1 a1
  obtain ⟨m,hm,hbm⟩:=List.mem_flatten.1 b1
  obtain ⟨i,hi,rfl⟩:=List.getElem_of_mem hl
  obtain ⟨k,hk,rfl⟩:=List.getElem_of_mem hm
  have gi:=List.getElem?_eq_getElem hi
  have gk:=List.getElem?_eq_getElem hk
  have sa:=shape_of hn gi hal
  have sb:=shape_of hn gk hbm
  rw [if_neg (by simp [oneP])]
  simp only [jointP,sa,sb]
  simp only [List.length_cons,List.length_nil] at hc
  by_cases hik:i=k
  ·subst hik
   have hpos:0<(ls.filter λ l=>decide ((whoE l e).length=2)).length:=by
    refine List.length_pos_of_mem (List.mem_filter.2 ⟨hl,?_⟩)
    rw [decide_eq_true_eq]
    refine same_len (m:=[a,b]) ((part_nodup hn gi).sublist List.filter_sublist) hwn (λ x=>⟨λ hx=>hback _ hl x hx,λ hx=>?_⟩)
    rcases List.mem_cons.1 hx with rfl | hx
    ·exact List.mem_filter.2 ⟨hal,by simpa using a2⟩
    ·rw [List.mem_singleton] at hx; subst hx
     exact List.mem_filter.2 ⟨hbm,by simpa using b2⟩
   rw [if_neg (by simp)]; omega
  ·have hzero:(ls.filter λ l=>decide ((whoE l e).length=2))=[]:=by
    rw [List.filter_eq_nil_iff]
    intro x hx hx2
    rw [decide_eq_true_eq] at hx2
    obtain ⟨j,hj,rfl⟩:=List.getElem_of_mem hx
    have gj:=List.getElem?_eq_getElem hj
    have nj:(whoE ls[j] e).Nodup:=(part_nodup hn gj).sublist List.filter_sublist
    have hsub:=hback _ hx
    have hin:∀ y∈[a,b],y∈whoE ls[j] e:=by
     intro y hy
     by_cases hyn:y∈whoE ls[j] e
     ·exact hyn
     ·have:=nodup_le (m:=[a,b].erase y) nj (λ z hz=>(List.mem_erase_of_ne (λ e=>hyn (by rw [← e]; exact hz))).2 (hsub z hz))
      rw [List.length_erase_of_mem hy,hx2] at this
      simp at this
    have ia:=(List.mem_filter.1 (hin a (by simp))).1
    have ib:=(List.mem_filter.1 (hin b (by simp))).1
    exact hik ((flat_at hn gi gj hal ia).trans (flat_at hn gj gk ib hbm))
   rw [hzero,List.length_nil] at hc
   rw [if_pos (by simpa using hik)]; omega
 ·simp at hle
/-! ### The pieces of a shape have no joints -/
end Go.Proofs.YtiinlplgloaanaaGreatDoor
/- Plain law of BrickBorders. -/
namespace Go.Proofs.YtiinlplgloaanaaGreatDoor
set_option linter.all false
open Go.RowKit
/-! ### All quarters of a set, in their order -/
theorem part_valid {s l:List Q} (hc:checkN s=0) (h:l.Sublist s) (hne:l≠[]):checkN l=0:=by
 obtain ⟨h1,_,h3⟩:=checkN_ok hc
 have:=h.length_le
 unfold checkN
 rw [if_neg (by omega),if_pos ⟨⟨λ q hq=>h1.1 q (h.subset hq),h1.2.sublist h⟩,hne⟩]
theorem checks_all:∀ {ls:List (List Q)},(∀ l∈ls,checkN l=0)→checks ls=0
 | [],_=>rfl
 | l :: ls,h=>by rw [checks,if_pos (h l (by simp))]; exact checks_all λ m hm=>h m (by simp [hm])
/-! ### The counts -/
theorem border_le {l:List Q} (hq:∀ q∈l,inQ q):(borderE l).length≤3*l.length:=by
 have h1:=ownL_length l []
 unfold borderE
 rw [List.length_map]
 have:=List.length_filter_le (λ m:E × List Q=>oneP m.2) (ownL [] l)
 simp only [List.length_nil] at h1
 omega
end Go.Proofs.YtiinlplgloaanaaGreatDoor
