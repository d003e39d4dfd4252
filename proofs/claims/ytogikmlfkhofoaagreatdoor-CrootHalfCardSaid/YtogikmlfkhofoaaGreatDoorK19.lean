/- My texts AIrow, AIrowz, in one. -/
import Derived.Test.YtogikmlfkhofoaaGreatDoorK18
import Derived.Test.YtogikmlfkhofoaaGreatDoorRows
import Derived.WalkKit
import Derived.ProofKit
import Derived.LaidMore
import Derived.OpenShut
import Derived.Below
import Derived.Carry
import Derived.SizedLaws
import Derived.Lib.LaidTab
import Derived.Deep.Strs
namespace Go.AI
open Go Go.RowKit Go.Proofs Go.ChangeShapes Go.WideShapes Go.ChangeAt
set_option linter.unusedVariables false
set_option maxRecDepth 100000
theorem rowOwn:ownKnob Tryz.prog.godebug=none:=by kernel_rfl
theorem rowOut:laidOutB Tryz.prog=true:=by kernel_rfl
theorem gTab : Tryz.prog.globalNamed "math/bits.deBruijn32tab" = some 0 := by kernel_rfl
abbrev tabLaid : List (String × DataW Unit) := [("math/bits.deBruijn32tab", YtogikmlfkhofoaaGreatDoor.Rows.laid_math_bits_deBruijn32tab)]
theorem tab_eq:(YtogikmlfkhofoaaGreatDoor.Rows.laid_math_bits_deBruijn32tab:DataW Unit)=Lib.tabData .u8 (Lib.deBruijn32tab.map fun (x:Nat)=>(x:Int)):=by rfl
theorem inv_of_laid {W:World} (h:laidMetH Tryz.prog tabLaid W):Inv W:=by
 rw [MakeChecks.laidMetH_plain _ _ _ (by kernel_rfl)] at h
 unfold tabLaid at h
 rw [tab_eq] at h
 have hT:=Lib.tabIs_of_head (rest:=[]) gTab (by kernel_rfl:(Tryz.prog.globals[0]?).map (·.type)=some 233) Tryz.underlying233 Tryz.underlying5 (by kernel_rfl) (by kernel_rfl) h
 intro j hj
 have:=hT.cell gTab j (by rw [List.length_map,show Lib.deBruijn32tab.length=32 from rfl];exact hj)
 rw [this]
 have hl:j<Lib.deBruijn32tab.length:=hj
 simp [List.getD_eq_getElem?_getD,hl]
abbrev allβ (W:World):Nat→Nat→Prop:=fun _ x=>x<W.heap.size
theorem open_num {H:Type} {enc:TypeId×Value→H} {W:World} {b0 na:Nat} {t:TypeId} {k:IntKind} {v:Value} {d:DataW H} {ps:List MemPlace} (hu:Tryz.prog.underlying t=some (.int k)) (hval:Value.okWide Tryz.prog W .any b0 t v) (hd:DataW.Trod enc Tryz.prog W 0 (fun _=>true) true t v d ps):
  ∃n,V ⟨argBs na,allβ W,W⟩ (.num k n) v:=by
 obtain ⟨n,rfl,_,_,hw⟩:=open_int hu hval hd
 refine ⟨n,?_⟩
 simp only [V]
 simp only [Lit.wf,Bool.and_eq_true,decide_eq_true_eq] at hw
 exact ⟨trivial,hw⟩
end Go.AI

namespace Go.AI
open Go Go.RowKit Go.Proofs Go.ChangeShapes Go.WideShapes Go.ChangeAt
set_option linter.unusedVariables false
set_option maxRecDepth 100000
theorem zTypes:Tryz.prog.cellTypes Tryz.prog.depth 26=some [24,24]:=by kernel_rfl
theorem zCells:Tryz.prog.cellsOf 26=2:=by kernel_rfl
theorem open_z {W:World} {b0 na:Nat} {v:Value} (hval:Value.okWide Tryz.prog W .any b0 26 v):
  ∃a b,V ⟨argBs na,allβ W,W⟩ (.agg [.num .u64 a,.num .u64 b]) v:=by
 simp only [Value.okWide,Tryz.underlying26] at hval
 obtain ⟨cs,rfl,hcs,ts',hct,_,hrow⟩:=hval
 rw [zTypes] at hct
 cases hct
 rw [zCells] at hcs
 obtain ⟨c0,c1,rfl⟩:∃c0 c1,cs= #[c0,c1]:=by
  obtain ⟨l⟩:=cs
  match l,hcs with
  |[a,b],_=>exact ⟨a,b,rfl⟩
 obtain ⟨u0,hu0,k0⟩:=hrow 0 c0 rfl
 obtain ⟨u1,hu1,k1⟩:=hrow 1 c1 rfl
 simp at hu0 hu1
 subst hu0 hu1
 have he0:∃e,c0= .int .u64 e∧IntKind.u64.min≤e∧e≤IntKind.u64.max:=by
  simp only [Cell.okWide,Cell.ok,Tryz.underlying24] at k0
  cases c0<;>simp at k0
  obtain ⟨rfl,h⟩:=k0
  exact ⟨_,rfl,h.1,h.2⟩
 have he1:∃e,c1= .int .u64 e∧IntKind.u64.min≤e∧e≤IntKind.u64.max:=by
  simp only [Cell.okWide,Cell.ok,Tryz.underlying24] at k1
  cases c1<;>simp at k1
  obtain ⟨rfl,h⟩:=k1
  exact ⟨_,rfl,h.1,h.2⟩
 obtain ⟨a,rfl,ha⟩:=he0
 obtain ⟨b,rfl,hb⟩:=he1
 refine ⟨a,b,?_⟩
 simp only [V]
 refine ⟨[.int .u64 a,.int .u64 b],rfl,?_⟩
 simp only [Vs,V]
 exact ⟨⟨trivial,ha⟩,⟨trivial,hb⟩,trivial⟩
end Go.AI
