/- My texts AVroots, AIroots, AIrow, AIrowz, in one. -/
import Derived.Test.YtogikmlfkhofoaaGreatDoorK21
import Derived.Test.YtogikmlfkhofoaaGreatDoorRows
import Derived.WalkKit
import Derived.ProofKit
import Derived.LaidMore
import Derived.OpenShut
import Derived.Below
import Derived.Carry
import Derived.SizedLaws
import Derived.Lib.LaidTab
import Derived.Deep.Strs
open Bool renaming and_eq_true→K9,and_true→PY
namespace Go.AI
open Dy IntKind
open Go Go.RowKit Go.Proofs
set_option linter.unusedVariables false
set_option maxRecDepth 100000
set_option maxHeartbeats 0
theorem B73 (a:Int) (b:Int) (x:Int) (y:Int) (e:Int) (a':Int) (b':Int) (x':Int) (y':Int) (r:Int) (Q:AV→Prop):(evF Tryz.prog (look D1l) (lam []) false Tryz.f8 [.agg [.num .u64 a,.num .u64 b,.num .u8 x,.num .u8 y],.num .i64 e,.agg [.num .u64 a',.num .u64 b',.num .u8 x',.num .u8 y'],.num .i64 r] Q)=(bif !decide (r=0) then bif decide (a=0)&&(decide (b=0)&&true)&&(decide (x=0)&&(decide (y=0)&&true)) then Q (.bool (decide (e=r))) else Q (.bool false) else bif decide (a=a')&&(decide (b=b')&&true)&&(decide (x=x')&&(decide (y=y')&&true)) then Q (.bool (decide (e=0))) else Q (.bool false)):=by kernel_rfl
theorem A2x (f:Int) (m:Int) (a:Int) (b:Int) (Q:AV→Prop):(evF Tryz.prog (look D42) (lam []) false Tryz.f3 [.num .u8 f,.num .u8 m,.agg [.num .u64 a,.num .u64 b]] Q)=(∀n1,n1=(↑(zrX f m a b).fst.fst:Int)→∀n2,n2=(↑(zrX f m a b).snd.fst:Int)→∀n3,n3=(zrX f m a b).fst.snd→∀n4,n4=(zrX f m a b).snd.snd→∀n5,n5=KR f m a b→bif !decide ((if L2 f m=0 then if H9 f a=0∧H9 f b=0 then (0:Int) else (6:Int) else L2 f m)=0) then bif if (if L2 f m=0 then if H9 f a=0∧H9 f b=0 then (0:Int) else (6:Int) else L2 f m)=0 then decide ((n1=n1∧n2=n2∧n3=n3∧n4=n4)∧n5=0) else decide ((n1=0∧n2=0∧n3=0∧n4=0)∧n5=if L2 f m=0 then if H9 f a=0∧H9 f b=0 then (0:Int) else (6:Int) else L2 f m) then Q (.bool true) else Q (.bool false) else (L2 f m=0∧H9 f a=0∧H9 f b=0)∧∀n6,n6=(↑(crF f m a b).fst.fst:Int)→∀n7,n7=(↑(crF f m a b).snd.fst:Int)→∀n8,n8=(crF f m a b).fst.snd→∀n9,n9=(crF f m a b).snd.snd→bif decide ((n1=n6∧n2=n7∧n3=n8∧n4=n9)∧n5=0) then Q (.bool true) else Q (.bool false)):=by kernel_rfl
end Go.AI

namespace Go.Dy
theorem A1r (f m a b:Int):(if L2 f m=0 then (if H9 f a=0∧H9 f b=0 then 0 else 6) else L2 f m)=KR f m a b:=by
 unfold KR
 by_cases h:L2 f m=0
 ·rw [if_pos h,if_pos h]
  obtain ⟨hf, -, -, -, -, -⟩:=W5 h
  have e:∀w:Int,H9 f w=0∨H9 f w=6:=fun w=>by
   unfold H9
   rw [OY hf,cond_true]
   split
   ·exact .inr rfl
   ·exact .inl rfl
  rcases e a with c|c<;>rcases e b with d|d<;>rw [c,d]<;>rfl
 ·rw [if_neg h,if_neg h]
end Go.Dy
namespace Go.AI
open Go Go.RowKit Go.Proofs
set_option linter.unusedVariables false
set_option maxRecDepth 100000
set_option maxHeartbeats 1000000
theorem B5a:G6 Tryz.prog Inv (look D1l):=A3 (A3 (A3 (A3 A1m A15) A16) A0u) B3i
theorem B3y (args:List AV) (s:Spec) (h:jIs args=some s) (hp:C6 s.pre True):Contract Tryz.prog Inv 8 args s.res:=by
 unfold jIs at h
 split at h
 ·cases h
  rename_i a b x y e a' b' x' y' r
  refine A4 false B5a Tryz.func8 (by kernel_rfl) (by kernel_rfl) fun hok=> ?_
  rw [B73]
  by_cases hr:r=0
  ·rw [if_pos hr]
   refine B1 (by simpa using hr) (A8 (fun c=> ?_) (fun c=> ?_))
   ·show AV.bool _=AV.bool _
    simp only [K9,decide_eq_true_eq,PY] at c
    rw [decide_eq_decide.2 (show e=0 ↔ (a=a'∧b=b'∧x=x'∧y=y')∧e=0 from ⟨fun h=>⟨⟨c.1.1,c.1.2,c.2.1,c.2.2⟩,h⟩,fun h=>h.2⟩)]
   ·show AV.bool _=AV.bool _
    rw [decide_eq_false]
    rintro ⟨⟨c1,c2,c3,c4⟩, -⟩
    rw [decide_eq_true c1,decide_eq_true c2,decide_eq_true c3,decide_eq_true c4] at c
    cases c
  ·rw [if_neg hr]
   refine B5 (by simpa using hr) (A8 (fun c=> ?_) (fun c=> ?_))
   ·show AV.bool _=AV.bool _
    simp only [K9,decide_eq_true_eq,PY] at c
    rw [decide_eq_decide.2 (show e=r ↔ (a=0∧b=0∧x=0∧y=0)∧e=r from ⟨fun h=>⟨⟨c.1.1,c.1.2,c.2.1,c.2.2⟩,h⟩,fun h=>h.2⟩)]
   ·show AV.bool _=AV.bool _
    rw [decide_eq_false]
    rintro ⟨⟨c1,c2,c3,c4⟩, -⟩
    rw [decide_eq_true c1,decide_eq_true c2,decide_eq_true c3,decide_eq_true c4] at c
    cases c
 ·cases h
theorem C9j:G6 Tryz.prog Inv (look D42):=A3 B5a B3y
theorem TN (f m a b:Int):Contract Tryz.prog Inv 3 [.num .u8 f,.num .u8 m,.agg [.num .u64 a,.num .u64 b]] (.bool true):=by
 refine A4 false C9j Tryz.func3 (by kernel_rfl) (by kernel_rfl) fun hok=> ?_
 rw [A2x,Dy.A1r]
 intro n1 e1 n2 e2 n3 e3 n4 e4 n5 e5
 by_cases hE:Dy.KR f m a b=0
 ·have hM:Dy.L2 f m=0∧Dy.H9 f a=0∧Dy.H9 f b=0:=by
   rw [←Dy.A1r] at hE
   by_cases h:Dy.L2 f m=0
   ·rw [if_pos h] at hE
    by_cases h':Dy.H9 f a=0∧Dy.H9 f b=0
    ·exact ⟨h,h'⟩
    ·rw [if_neg h'] at hE;cases hE
   ·rw [if_neg h] at hE;exact absurd hE h
  have hz:Dy.zrX f m a b=Dy.crF f m a b:=by unfold Dy.zrX;rw [if_pos hE]
  rw [hz] at e1 e2 e3 e4
  refine B1 (by rw [hE];rfl) ⟨hM,?_⟩
  intro n6 e6 n7 e7 n8 e8 n9 e9
  exact B5 (decide_eq_true ⟨⟨e1.trans e6.symm,e2.trans e7.symm,e3.trans e8.symm,e4.trans e9.symm⟩,e5.trans hE⟩) rfl
 ·have hz:Dy.zrX f m a b=((0,0),(0,0)):=by unfold Dy.zrX;rw [if_neg hE]
  rw [hz] at e1 e2 e3 e4
  rw [if_neg hE]
  exact B5 (by simpa using hE) (B5 (decide_eq_true ⟨⟨e1,e2,e3,e4⟩,e5⟩) rfl)
end Go.AI

namespace Go.AI
open Go Go.RowKit Go.Proofs Go.ChangeShapes Go.WideShapes Go.ChangeAt
set_option linter.unusedVariables false
set_option maxRecDepth 100000
theorem D5i:ownKnob Tryz.prog.godebug=none:=by kernel_rfl
theorem C1d:laidOutB Tryz.prog=true:=by kernel_rfl
theorem D67 : Tryz.prog.globalNamed "math/bits.deBruijn32tab" = some 0 := by kernel_rfl
abbrev PP : List (String × DataW Unit) := [("math/bits.deBruijn32tab", YtogikmlfkhofoaaGreatDoor.Rows.laid_math_bits_deBruijn32tab)]
theorem D5y:(YtogikmlfkhofoaaGreatDoor.Rows.laid_math_bits_deBruijn32tab:DataW Unit)=Lib.tabData .u8 (Lib.deBruijn32tab.map fun (x:Nat)=>(x:Int)):=by rfl
theorem B2s {W:World} (h:laidMetH Tryz.prog PP W):Inv W:=by
 rw [MakeChecks.laidMetH_plain _ _ _ (by kernel_rfl)] at h
 unfold PP at h
 rw [D5y] at h
 have hT:=Lib.tabIs_of_head (rest:=[]) D67 (by kernel_rfl:(Tryz.prog.globals[0]?).map (·.type)=some 233) Tryz.underlying233 Tryz.underlying5 (by kernel_rfl) (by kernel_rfl) h
 intro j hj
 have:=hT.cell D67 j (by rw [List.length_map,show Lib.deBruijn32tab.length=32 from rfl];exact hj)
 rw [this]
 have hl:j<Lib.deBruijn32tab.length:=hj
 simp [List.getD_eq_getElem?_getD,hl]
abbrev C3o (W:World):Nat→Nat→Prop:=fun _ x=>x<W.heap.size
theorem B5f {H:Type} {enc:TypeId×Value→H} {W:World} {b0 na:Nat} {t:TypeId} {k:IntKind} {v:Value} {d:DataW H} {ps:List MemPlace} (hu:Tryz.prog.underlying t=some (.int k)) (hval:Value.okWide Tryz.prog W .any b0 t v) (hd:DataW.Trod enc Tryz.prog W 0 (fun _=>true) true t v d ps):
  ∃n,V ⟨X8 na,C3o W,W⟩ (.num k n) v:=by
 obtain ⟨n,rfl,_,_,hw⟩:=open_int hu hval hd
 refine ⟨n,?_⟩
 simp only [V]
 simp only [Lit.wf,K9,decide_eq_true_eq] at hw
 exact ⟨trivial,hw⟩
end Go.AI

namespace Go.AI
open Go Go.RowKit Go.Proofs Go.ChangeShapes Go.WideShapes Go.ChangeAt
set_option linter.unusedVariables false
set_option maxRecDepth 100000
theorem D62:Tryz.prog.cellTypes Tryz.prog.depth 26=some [24,24]:=by kernel_rfl
theorem D61:Tryz.prog.cellsOf 26=2:=by kernel_rfl
theorem D56 {W:World} {b0 na:Nat} {v:Value} (hval:Value.okWide Tryz.prog W .any b0 26 v):
  ∃a b,V ⟨X8 na,C3o W,W⟩ (.agg [.num .u64 a,.num .u64 b]) v:=by
 simp only [Value.okWide,Tryz.underlying26] at hval
 obtain ⟨cs,rfl,hcs,ts',hct,_,hrow⟩:=hval
 rw [D62] at hct
 cases hct
 rw [D61] at hcs
 obtain ⟨c0,c1,rfl⟩:∃c0 c1,cs= #[c0,c1]:=by
  obtain ⟨l⟩:=cs
  match l,hcs with
  |[a,b],_=>exact ⟨a,b,rfl⟩
 obtain ⟨u0,hu0,k0⟩:=hrow 0 c0 rfl
 obtain ⟨u1,hu1,k1⟩:=hrow 1 c1 rfl
 simp at hu0 hu1
 subst hu0 hu1
 have he0:∃e,c0= .int .u64 e∧IntKind.u64.min≤e∧e≤IntKind.u64.max:=by
  simp only [Cell.okWide,Cell.ok,Tryz.underlying24] at k0
  cases c0<;>simp at k0
  obtain ⟨rfl,h⟩:=k0
  exact ⟨_,rfl,h.1,h.2⟩
 have he1:∃e,c1= .int .u64 e∧IntKind.u64.min≤e∧e≤IntKind.u64.max:=by
  simp only [Cell.okWide,Cell.ok,Tryz.underlying24] at k1
  cases c1<;>simp at k1
  obtain ⟨rfl,h⟩:=k1
  exact ⟨_,rfl,h.1,h.2⟩
 obtain ⟨a,rfl,ha⟩:=he0
 obtain ⟨b,rfl,hb⟩:=he1
 refine ⟨a,b,?_⟩
 simp only [V]
 refine ⟨[.int .u64 a,.int .u64 b],rfl,?_⟩
 simp only [Vs,V]
 exact ⟨⟨trivial,ha⟩,⟨trivial,hb⟩,trivial⟩
end Go.AI
