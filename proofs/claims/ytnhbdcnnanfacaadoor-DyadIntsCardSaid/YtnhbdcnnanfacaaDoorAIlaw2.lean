/- The law DyadInts answers true. -/
import Derived.Test.YtnhbdcnnanfacaaDoorAIlaw1
import Derived.Test.YtnhbdcnnanfacaaDoorAVlaw2
namespace Go.AI
open Go Go.RowKit Go.Proofs
set_option linter.unusedVariables false
set_option maxRecDepth 100000
theorem sameD_self (d : Dy.Dyd) : Dy.sameD d d = true := Dy.sameD_iff.2 rfl
theorem ok_law_DyadInts (n : Int) (s : Bool) (m : List Nat) (e : Int) : Contract Tryd.prog Inv 4 [.num .i64 n, .agg [.bool s, .dig [2] m, .num .i64 e]] (.bool true) := by
  refine contract0 false ok_tab17 Tryd.func4 (by kernel_rfl) (by kernel_rfl) fun hok => ?_
  rw [vc_law2_DyadInts]
  refine cond_i (fun h => cond_t h rfl) (fun h => ?_)
  have h' := of_decide_eq_false h
  rintro _ rfl _ rfl _ rfl _ rfl _ rfl _ rfl
  refine cond_f (by rw [sameD_self]; rfl) ⟨by omega, ?_⟩
  rintro _ rfl _ rfl _ rfl _ rfl _ rfl
  refine cond_i (fun h1 => ⟨h1, ?_⟩) (fun h1 => ?_)
  · rintro _ rfl _ rfl
    exact cond_t (decide_eq_true rfl) (cond_t (decide_eq_true rfl) rfl)
  · unfold Dy.int64D
    rw [h1]
    exact cond_t (decide_eq_true rfl) (cond_t (decide_eq_true rfl) rfl)
end Go.AI
