/- The laws DyadRing and DyadOrder answer true. -/
import Derived.Test.YtnhbdcnnanfacaaDoorAIring
import Derived.Test.YtnhbdcnnanfacaaDoorAVlaw2
namespace Go.AI
open Go Go.RowKit Go.Proofs
set_option linter.unusedVariables false
set_option maxRecDepth 100000
theorem same_self (d : Dy.Dyd) : Dy.sameD d d = true := Dy.sameD_iff.2 rfl
/-- what a call yielded, under one name -/
theorem peel {x : Dy.Dyd × Int} {d0 : Dy.Dyd} {k0 : Int} (hx : x = (d0, k0)) {P : Bool → List Nat → Int → Int → Prop} (h : ∀ b l n, Dy.Dyd.mk b l n = d0 → P b l n k0) :
    ∀ b, b = x.1.neg → ∀ l, l = x.1.mag → ∀ n, n = x.1.exp → ∀ k, k = x.2 → P b l n k := by
  subst hx
  rintro _ rfl _ rfl _ rfl _ rfl
  exact h _ _ _ rfl
theorem peel1 {x k0 : Int} (hx : x = k0) {P : Int → Prop} (h : P k0) : ∀ k, k = x → P k := by
  subst hx
  rintro _ rfl
  exact h
theorem t0 {p q : Prop} (h : q) : bif !decide ((0 : Int) = 0) then p else q := h
theorem t1 {p q : Prop} (h : p) : bif decide ((0 : Int) = 0) then p else q := h
theorem ok_law_DyadRing (s : Bool) (m : List Nat) (e : Int) (s' : Bool) (m' : List Nat) (e' : Int) (s2 : Bool) (m2 : List Nat) (e2 : Int) :
    Contract Tryd.prog Inv 5 [.agg [.bool s, .dig [1] m, .num .i64 e], .agg [.bool s', .dig [2] m', .num .i64 e'], .agg [.bool s2, .dig [3] m2, .num .i64 e2]] (.bool true) := by
  refine contract0 false ok_tab17 Tryd.func5 (by kernel_rfl) (by kernel_rfl) fun hok => ?_
  rw [vc_law2_DyadRing]
  refine cond_i (fun h => rfl) (fun h => ?_)
  simp only [Bool.not_eq_false', Bool.and_eq_true] at h
  obtain ⟨n1, n2, n3⟩ := h
  have fa := Dy.near_fit n1
  have fb := Dy.near_fit n2
  have fc := Dy.near_fit n3
  generalize Dy.Dyd.mk s m e = a at *
  generalize Dy.Dyd.mk s' m' e' = b at *
  generalize Dy.Dyd.mk s2 m2 e2 = c at *
  have fab := (Dy.fit_add fa fb (by decide) (by decide)).1
  have fbc := (Dy.fit_add fb fc (by decide) (by decide)).1
  refine peel (Dy.boundIf_add fa fb (by decide) (by decide)) fun _ _ _ h1 => ?_
  refine peel (Dy.boundIf_add fb fa (by decide) (by decide)) fun _ _ _ h2 => ?_
  refine peel (Dy.boundIf_add fb fc (by decide) (by decide)) fun _ _ _ h3 => ?_
  rw [h1, h2, h3]
  refine peel (Dy.boundIf_add fab (fc.mono (by decide) (by decide)) (by decide) (by decide)) fun _ _ _ h4 => ?_
  refine peel (Dy.boundIf_add (fa.mono (by decide) (by decide)) fbc (by decide) (by decide)) fun _ _ _ h5 => ?_
  refine peel (Dy.boundIf_sub fab (fb.mono (by decide) (by decide)) (by decide) (by decide)) fun _ _ _ h6 => ?_
  rw [h4, h5, h6]
  refine t0 (t0 (t0 (t0 (t0 (t0 (cond_f (by rw [Dy.addD_comm b a, same_self]; rfl) (cond_f (by rw [Dy.ring_assoc fa fb fc, same_self]; rfl) (cond_f (by rw [Dy.ring_back fa fb, same_self]; rfl) ?_))))))))
  have pab := (Dy.fit_mul fa fb (by decide) (by decide)).1
  have pac := (Dy.fit_mul fa fc (by decide) (by decide)).1
  have pbc := (Dy.fit_mul fb fc (by decide) (by decide)).1
  refine peel (Dy.boundIf_mul fa fb (by decide) (by decide)) fun _ _ _ g1 => ?_
  refine peel (Dy.boundIf_mul fb fa (by decide) (by decide)) fun _ _ _ g2 => ?_
  refine peel (Dy.boundIf_mul fa fc (by decide) (by decide)) fun _ _ _ g3 => ?_
  refine peel (Dy.boundIf_mul (fa.mono (by decide) (by decide)) fbc (by decide) (by decide)) fun _ _ _ g4 => ?_
  rw [g1, g2, g3, g4]
  refine peel (Dy.boundIf_add pab pac (by decide) (by decide)) fun _ _ _ g5 => ?_
  refine peel (Dy.boundIf_mul pab (fc.mono (by decide) (by decide)) (by decide) (by decide)) fun _ _ _ g6 => ?_
  refine peel (Dy.boundIf_mul fb fc (by decide) (by decide)) fun _ _ _ g7 => ?_
  rw [g5, g6, g7]
  refine peel (Dy.boundIf_mul (fa.mono (by decide) (by decide)) pbc (by decide) (by decide)) fun _ _ _ g8 => ?_
  rw [g8]
  exact t1 (t1 (t1 (t1 (t1 (t1 (t1 (t1 (cond_t (by rw [Dy.mulD_comm b a, same_self]) (cond_t (by rw [Dy.ring_dist fa fb fc, same_self]) (cond_t (by rw [Dy.ring_mul fa fb fc, same_self]) rfl))))))))))
theorem cmpZ_spec (a b : Int) : (a < b ∧ Dy.cmpZ a b = -1) ∨ (a = b ∧ Dy.cmpZ a b = 0) ∨ (b < a ∧ Dy.cmpZ a b = 1) := by
  unfold Dy.cmpZ
  by_cases h1 : a < b
  · exact .inl ⟨h1, if_pos h1⟩
  · by_cases h2 : b < a
    · exact .inr (.inr ⟨h2, by rw [if_neg h1, if_pos h2]⟩)
    · exact .inr (.inl ⟨by omega, by rw [if_neg h1, if_neg h2]⟩)
theorem cmp_chain (X Y Z : Int) : (Dy.cmpZ X Y ≤ 0 → Dy.cmpZ Y Z ≤ 0 → Dy.cmpZ X Z ≤ 0) ∧ (Dy.cmpZ X Y < 0 → Dy.cmpZ Y Z ≤ 0 → Dy.cmpZ X Z < 0) ∧ Dy.cmpZ Y X = -Dy.cmpZ X Y ∧ (Dy.cmpZ X Y = 0 ↔ X = Y) ∧ Dy.cmpZ (X + -Y) 0 = Dy.cmpZ X Y := by
  have h1 := cmpZ_spec X Y
  have h2 := cmpZ_spec Y Z
  have h3 := cmpZ_spec X Z
  have h4 := cmpZ_spec Y X
  have h5 := cmpZ_spec (X + -Y) 0
  omega
theorem ok_law_DyadOrder (s : Bool) (m : List Nat) (e : Int) (s' : Bool) (m' : List Nat) (e' : Int) (s2 : Bool) (m2 : List Nat) (e2 : Int) :
    Contract Tryd.prog Inv 7 [.agg [.bool s, .dig [1] m, .num .i64 e], .agg [.bool s', .dig [2] m', .num .i64 e'], .agg [.bool s2, .dig [3] m2, .num .i64 e2]] (.bool true) := by
  refine contract0 false ok_tab17 Tryd.func7 (by kernel_rfl) (by kernel_rfl) fun hok => ?_
  rw [vc_law2_DyadOrder]
  refine cond_i (fun h => rfl) (fun h => ?_)
  simp only [Bool.not_eq_false', Bool.and_eq_true] at h
  obtain ⟨n1, n2, n3⟩ := h
  have fa := Dy.near_fit n1
  have fb := Dy.near_fit n2
  have fc := Dy.near_fit n3
  generalize Dy.Dyd.mk s m e = a at *
  generalize Dy.Dyd.mk s' m' e' = b at *
  generalize Dy.Dyd.mk s2 m2 e2 = c at *
  have fd := (Dy.fit_add fa (Dy.fit_neg fb) (by decide) (by decide)).1
  refine peel (Dy.boundIf_sub fa fb (by decide) (by decide)) fun _ _ _ h1 => ?_
  have a1 := fa.lo
  have b1 := fb.lo
  have c1 := fc.lo
  have d1 := fd.lo
  have nb := (Dy.fit_neg fb).lo
  rw [h1, fa.may, fb.may, fc.may, fd.may]
  simp only [Bool.and_self, if_true]
  rw [Dy.cmpD_at (a := a) (b := b) (u := -20000) (by omega) (by omega), Dy.cmpD_at (a := b) (b := a) (u := -20000) (by omega) (by omega), Dy.cmpD_at (a := b) (b := c) (u := -20000) (by omega) (by omega), Dy.cmpD_at (a := a) (b := c) (u := -20000) (by omega) (by omega),
    Dy.signD_at fd.may (u := -20000) (by omega), Dy.at_addD (by omega) (by omega), Dy.at_negD]
  have hsame : Dy.sameD a b = decide (Dy.cmpZ (Dy.at_ a (-20000)) (Dy.at_ b (-20000)) = 0) := by
    rw [Bool.eq_iff_iff, Dy.sameD_iff, decide_eq_true_eq, (cmp_chain _ _ 0).2.2.2.1]
    constructor
    · intro h; rw [h]
    · intro h; exact Dy.fit_inj fa fb (by omega) (by omega) h
  rw [hsame]
  obtain ⟨k1, k2, k3, _, k5⟩ := cmp_chain (Dy.at_ a (-20000)) (Dy.at_ b (-20000)) (Dy.at_ c (-20000))
  rw [k5, k3]
  have q1 := Dy.cmpZ_vals (Dy.at_ a (-20000)) (Dy.at_ b (-20000))
  have q2 := Dy.cmpZ_vals (Dy.at_ b (-20000)) (Dy.at_ c (-20000))
  have q3 := Dy.cmpZ_vals (Dy.at_ a (-20000)) (Dy.at_ c (-20000))
  clear hsame k5 k3
  generalize Dy.cmpZ (Dy.at_ a (-20000)) (Dy.at_ b (-20000)) = p at *
  generalize Dy.cmpZ (Dy.at_ b (-20000)) (Dy.at_ c (-20000)) = q at *
  generalize Dy.cmpZ (Dy.at_ a (-20000)) (Dy.at_ c (-20000)) = r at *
  rintro _ rfl _ rfl _ rfl _ rfl _ rfl _ rfl _ rfl _ rfl
  rcases q1 with rfl | rfl | rfl <;> rcases q2 with rfl | rfl | rfl <;> rcases q3 with rfl | rfl | rfl <;> first | (exfalso; omega) | exact trivial
end Go.AI
