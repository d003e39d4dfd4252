/- Numbers with a binary point make a ring and an order, in plain mathematics. -/
import Derived.Test.YtnhbdcnnanfacaaDoorAIlaw1
namespace Go.Dy
set_option maxRecDepth 100000
set_option linter.unusedVariables false
theorem formZ_at {d : Dyd} {u : Int} (h : mayD d = true) (hu : u ≤ d.exp) : formZ (at_ d u) u = d := by
  obtain ⟨s, m, e⟩ := d
  unfold at_
  simp only at hu ⊢
  rw [formZ_mul, show u + ((e - u).toNat : Int) = e by omega]
  exact formZ_self h
theorem at_zero (u : Int) : at_ zeroD u = 0 := by unfold at_ Dyd.int zeroD; simp [val]
theorem at_form {s : Bool} {n : Nat} {e u : Int} (hu : u ≤ e) : at_ (form s n e) u = sgn s (n * 2 ^ (e - u).toNat) := by
  by_cases c : n = 0
  · subst c
    rw [form_zero, at_zero, Nat.zero_mul, sgn_zero]
  · rw [form_pos c, at_mk, val_dg, show (e + (tz n : Int) - u).toNat = tz n + (e - u).toNat by omega, Nat.pow_add, ← Nat.mul_assoc, Nat.div_mul_cancel (two_tz_dvd n)]
theorem at_formZ {z e u : Int} (hu : u ≤ e) : at_ (formZ z e) u = z * 2 ^ (e - u).toNat := by
  unfold formZ
  rw [at_form hu, ← sgn_mul, ← sgn_natAbs, show (((2 ^ (e - u).toNat : Nat) : Int)) = (2 : Int) ^ (e - u).toNat by simp]
theorem at_formZ_self (z u : Int) : at_ (formZ z u) u = z := by
  rw [at_formZ (Int.le_refl _), show (u - u).toNat = 0 by omega, Int.pow_zero, Int.mul_one]
theorem at_scale (d : Dyd) {u v : Int} (hv : v ≤ u) (hu : u ≤ d.exp) : at_ d v = at_ d u * 2 ^ (u - v).toNat := by
  unfold at_
  rw [Int.mul_assoc, ← Int.pow_add, show (d.exp - v).toNat = (d.exp - u).toNat + (u - v).toNat by omega]
theorem addD_at {a b : Dyd} {u : Int} (ha : u ≤ a.exp) (hb : u ≤ b.exp) : addD a b = formZ (at_ a u + at_ b u) u := by
  unfold addD
  have h1 : u ≤ unit a b := by unfold unit; omega
  have h2 : unit a b ≤ a.exp := by unfold unit; omega
  have h3 : unit a b ≤ b.exp := by unfold unit; omega
  rw [at_scale a h1 h2, at_scale b h1 h3, ← Int.add_mul, formZ_mul, show u + ((unit a b - u).toNat : Int) = unit a b by omega]
theorem at_addD {a b : Dyd} {u : Int} (ha : u ≤ a.exp) (hb : u ≤ b.exp) : at_ (addD a b) u = at_ a u + at_ b u := by rw [addD_at ha hb, at_formZ_self]
theorem at_mulD {a b : Dyd} {u v : Int} (ha : u ≤ a.exp) (hb : v ≤ b.exp) : at_ (mulD a b) (u + v) = at_ a u * at_ b v := by
  obtain ⟨s, m, e⟩ := a
  obtain ⟨s', m', e'⟩ := b
  unfold mulD
  simp only at ha hb ⊢
  rw [at_form (by omega), at_mk, at_mk, show (e + e' - (u + v)).toNat = (e - u).toNat + (e' - v).toNat by omega, Nat.pow_add]
  have hn : val m * val m' * (2 ^ (e - u).toNat * 2 ^ (e' - v).toNat) = (val m * 2 ^ (e - u).toNat) * (val m' * 2 ^ (e' - v).toNat) := by
    rw [Nat.mul_mul_mul_comm]
  rw [hn]
  generalize val m * 2 ^ (e - u).toNat = A
  generalize val m' * 2 ^ (e' - v).toNat = B
  unfold sgn
  cases s <;> cases s' <;> simp [Int.neg_mul, Int.mul_neg]
theorem at_negD {b : Dyd} (u : Int) : at_ (negD b) u = -at_ b u := by
  obtain ⟨s, m, e⟩ := b
  unfold negD
  simp only
  rw [at_mk, at_mk]
  by_cases c : m = []
  · subst c
    simp [val, sgn]
  · unfold sgn
    cases s <;> simp [c]
/-- a number of at most L bits, the exponent of at most E in size -/
structure Fit (d : Dyd) (L E : Nat) : Prop where
  may : mayD d = true
  bits : bl (val d.mag) ≤ L
  lo : -(E : Int) ≤ d.exp
  hi : d.exp ≤ E
theorem Fit.mono {d : Dyd} {L E L' E' : Nat} (h : Fit d L E) (hl : L ≤ L') (he : E ≤ E') : Fit d L' E' := ⟨h.may, Nat.le_trans h.bits hl, by have := h.lo; omega, by have := h.hi; omega⟩
theorem near_fit {d : Dyd} (h : nearD d = true) : Fit d 3200 3000 := by
  unfold nearD at h
  simp only [Bool.and_eq_true, decide_eq_true_eq] at h
  obtain ⟨⟨h1, h2, h3⟩, h4⟩ := h
  refine ⟨h4, ?_, by omega, by omega⟩
  have hm := mayD_may (s := d.neg) (m := d.mag) (e := d.exp) h4
  have := (length_dg_bl (n := val d.mag) (k := 100)).1 (by rw [may_dg hm]; exact h1)
  omega
theorem fit_form {s : Bool} {n : Nat} {e : Int} {L E : Nat} (hb : bl n ≤ L) (h1 : -(E : Int) ≤ e) (h2 : e + bl n ≤ E) (hL : L ≤ 131072) (hE : E ≤ 16777216) : Fit (form s n e) L E ∧ boundD (form s n e) = (form s n e, 0) := by
  have hf : Fit (form s n e) L E := by
    by_cases c : n = 0
    · subst c
      rw [form_zero]
      exact ⟨mayD_zero, by unfold zeroD; simp only [val, bl_zero]; omega, by unfold zeroD; simp only; omega, by unfold zeroD; simp only; omega⟩
    · have ht := tz_lt_bl c
      have hbl : bl (n / 2 ^ tz n) ≤ L := by rw [bl_div_two_pow]; omega
      rw [form_pos c]
      refine ⟨?_, by rw [val_dg]; exact hbl, by simp only; omega, by simp only; omega⟩
      rw [mayD_iff]
      refine ⟨may_dgn.2 (len_bl.2 (by omega)), .inr ⟨fun e => ?_, by rw [val_dg]; exact div_tz_odd c, inside_iff.2 (by omega)⟩⟩
      have := dg_eq_nil.1 e
      have h0 := div_tz_odd c
      omega
  exact ⟨hf, boundD_self hf.may⟩
theorem fit_formZ {z e : Int} {L E : Nat} (hb : bl z.natAbs ≤ L) (h1 : -(E : Int) ≤ e) (h2 : e + bl z.natAbs ≤ E) (hL : L ≤ 131072) (hE : E ≤ 16777216) : Fit (formZ z e) L E ∧ boundD (formZ z e) = (formZ z e, 0) := fit_form hb h1 h2 hL hE
theorem natAbs_sgn (s : Bool) (n : Nat) : (sgn s n).natAbs = n := by unfold sgn; cases s <;> simp
theorem at_bits {d : Dyd} {L E : Nat} (h : Fit d L E) {u : Int} (hu : u ≤ d.exp) : bl (at_ d u).natAbs ≤ L + (d.exp - u).toNat := by
  obtain ⟨s, m, e⟩ := d
  have h1 := h.bits
  simp only at h1 hu ⊢
  rw [at_mk, natAbs_sgn]
  by_cases c : val m = 0
  · rw [c, Nat.zero_mul, bl_zero]; omega
  · rw [bl_mul_two_pow c]; omega
theorem bl_sum {x y : Int} {k : Nat} (hx : bl x.natAbs ≤ k) (hy : bl y.natAbs ≤ k) : bl (x + y).natAbs ≤ k + 1 := by
  have h1 := bl_le.1 hx
  have h2 := bl_le.1 hy
  refine bl_le.2 ?_
  rw [Nat.pow_succ]
  omega
theorem fit_add {a b : Dyd} {L E : Nat} (ha : Fit a L E) (hb : Fit b L E) (hL : L + 2 * E + 1 ≤ 131072) (hE : L + 3 * E + 1 ≤ 16777216) :
    Fit (addD a b) (L + 2 * E + 1) (L + 3 * E + 1) ∧ boundD (addD a b) = (addD a b, 0) := by
  unfold addD
  have a1 := ha.lo
  have a2 := ha.hi
  have b1 := hb.lo
  have b2 := hb.hi
  have u1 : unit a b ≤ a.exp := by unfold unit; omega
  have u2 : unit a b ≤ b.exp := by unfold unit; omega
  have u3 : -(E : Int) ≤ unit a b := by unfold unit; omega
  have k1 := at_bits ha u1
  have k2 := at_bits hb u2
  have k3 := bl_sum (x := at_ a (unit a b)) (y := at_ b (unit a b)) (k := L + 2 * E) (by omega) (by omega)
  exact fit_formZ k3 (by omega) (by omega) hL hE
theorem fit_neg {b : Dyd} {L E : Nat} (h : Fit b L E) : Fit (negD b) L E := by
  obtain ⟨s, m, e⟩ := b
  exact ⟨AI.mayD_neg h.may, h.bits, h.lo, h.hi⟩
theorem fit_mul {a b : Dyd} {L E : Nat} (ha : Fit a L E) (hb : Fit b L E) (hL : 2 * L ≤ 131072) (hE : 2 * E + 2 * L ≤ 16777216) :
    Fit (mulD a b) (2 * L) (2 * E + 2 * L) ∧ boundD (mulD a b) = (mulD a b, 0) := by
  unfold mulD
  have a1 := ha.lo
  have a2 := ha.hi
  have b1 := hb.lo
  have b2 := hb.hi
  have k : bl (val a.mag * val b.mag) ≤ 2 * L := by
    refine bl_le.2 ?_
    rw [show 2 * L = L + L by omega, Nat.pow_add]
    exact Nat.mul_lt_mul'' (bl_le.1 ha.bits) (bl_le.1 hb.bits)
  exact fit_form k (by omega) (by omega) hL hE
theorem fit_inj {a b : Dyd} {L E L' E' : Nat} (ha : Fit a L E) (hb : Fit b L' E') {u : Int} (h1 : u ≤ -(E : Int)) (h2 : u ≤ -(E' : Int)) (h : at_ a u = at_ b u) : a = b := by
  have a1 := ha.lo
  have b1 := hb.lo
  rw [← formZ_at ha.may (show u ≤ a.exp by omega), ← formZ_at hb.may (show u ≤ b.exp by omega), h]
theorem boundIf_add {a b : Dyd} {L E : Nat} (ha : Fit a L E) (hb : Fit b L E) (hL : L + 2 * E + 1 ≤ 131072) (hE : L + 3 * E + 1 ≤ 16777216) : boundIf (mayD a && mayD b) (addD a b) = (addD a b, 0) := by
  unfold boundIf
  rw [ha.may, hb.may, (fit_add ha hb hL hE).2]
  rfl
theorem boundIf_sub {a b : Dyd} {L E : Nat} (ha : Fit a L E) (hb : Fit b L E) (hL : L + 2 * E + 1 ≤ 131072) (hE : L + 3 * E + 1 ≤ 16777216) : boundIf (mayD a && mayD b) (addD a (negD b)) = (addD a (negD b), 0) := by
  unfold boundIf
  rw [ha.may, hb.may, (fit_add ha (fit_neg hb) hL hE).2]
  rfl
theorem boundIf_mul {a b : Dyd} {L E : Nat} (ha : Fit a L E) (hb : Fit b L E) (hL : 2 * L ≤ 131072) (hE : 2 * E + 2 * L ≤ 16777216) : boundIf (mayD a && mayD b) (mulD a b) = (mulD a b, 0) := by
  unfold boundIf
  rw [ha.may, hb.may, (fit_mul ha hb hL hE).2]
  rfl
/-! the ring's laws -/
section
variable {a b c : Dyd} (ha : Fit a 3200 3000) (hb : Fit b 3200 3000) (hc : Fit c 3200 3000)
include ha hb hc
theorem ring_assoc : addD (addD a b) c = addD a (addD b c) := by
  have f1 := (fit_add ha hb (by decide) (by decide)).1
  have f2 := (fit_add hb hc (by decide) (by decide)).1
  have f3 := (fit_add f1 (hc.mono (by decide) (by decide)) (by decide) (by decide)).1
  have f4 := (fit_add (ha.mono (by decide) (by decide)) f2 (by decide) (by decide)).1
  have a1 := ha.lo
  have b1 := hb.lo
  have c1 := hc.lo
  have d1 := f1.lo
  have d2 := f2.lo
  refine fit_inj f3 f4 (u := -100000) (by omega) (by omega) ?_
  rw [at_addD (by omega) (by omega), at_addD (by omega) (by omega), at_addD (by omega) (by omega), at_addD (by omega) (by omega)]
  omega
omit hc in
theorem ring_back : addD (addD a b) (negD b) = a := by
  have f1 := (fit_add ha hb (by decide) (by decide)).1
  have f3 := (fit_add f1 ((fit_neg hb).mono (by decide) (by decide)) (by decide) (by decide)).1
  have a1 := ha.lo
  have b1 := hb.lo
  have n1 := (fit_neg hb).lo
  have d1 := f1.lo
  refine fit_inj f3 ha (u := -100000) (by omega) (by omega) ?_
  rw [at_addD (by omega) (by omega), at_addD (by omega) (by omega), at_negD]
  omega
theorem ring_dist : mulD a (addD b c) = addD (mulD a b) (mulD a c) := by
  have f2 := (fit_add hb hc (by decide) (by decide)).1
  have p1 := (fit_mul ha hb (by decide) (by decide)).1
  have p2 := (fit_mul ha hc (by decide) (by decide)).1
  have f3 := (fit_mul (ha.mono (by decide) (by decide)) f2 (by decide) (by decide)).1
  have f4 := (fit_add p1 p2 (by decide) (by decide)).1
  have a1 := ha.lo
  have b1 := hb.lo
  have c1 := hc.lo
  have d2 := f2.lo
  have q1 := p1.lo
  have q2 := p2.lo
  refine fit_inj f3 f4 (u := -200000 + -200000) (by omega) (by omega) ?_
  rw [at_mulD (by omega) (by omega), at_addD (by omega) (by omega), at_addD (by omega) (by omega), at_mulD (by omega) (by omega), at_mulD (by omega) (by omega), Int.mul_add]
theorem ring_mul : mulD (mulD a b) c = mulD a (mulD b c) := by
  have p1 := (fit_mul ha hb (by decide) (by decide)).1
  have p2 := (fit_mul hb hc (by decide) (by decide)).1
  have f3 := (fit_mul p1 (hc.mono (by decide) (by decide)) (by decide) (by decide)).1
  have f4 := (fit_mul (ha.mono (by decide) (by decide)) p2 (by decide) (by decide)).1
  have a1 := ha.lo
  have b1 := hb.lo
  have c1 := hc.lo
  have q1 := p1.lo
  have q2 := p2.lo
  refine fit_inj f3 f4 (u := (-50000 + -50000) + -50000) (by omega) (by omega) ?_
  rw [at_mulD (by omega) (by omega), show (-50000 + -50000 + -50000 : Int) = -50000 + (-50000 + -50000) by omega, at_mulD (by omega) (by omega), at_mulD (by omega) (by omega), at_mulD (by omega) (by omega), Int.mul_assoc]
end
theorem mulD_comm (a b : Dyd) : mulD a b = mulD b a := by
  unfold mulD
  rw [Nat.mul_comm, Int.add_comm]
  have : (a.neg != b.neg) = (b.neg != a.neg) := by cases a.neg <;> cases b.neg <;> rfl
  rw [this]
/-! the order's laws -/
theorem cmpZ_mul (a b : Int) (k : Nat) : cmpZ (a * 2 ^ k) (b * 2 ^ k) = cmpZ a b := by
  have hp : (0 : Int) < 2 ^ k := Int.pow_pos (by decide)
  unfold cmpZ
  by_cases h1 : a < b
  · rw [if_pos h1, if_pos (Int.mul_lt_mul_of_pos_right h1 hp)]
  · by_cases h2 : b < a
    · have := Int.mul_lt_mul_of_pos_right h2 hp
      rw [if_neg h1, if_pos h2, if_neg (by omega), if_pos this]
    · have : a = b := by omega
      subst this
      simp
theorem cmpD_at {a b : Dyd} {u : Int} (ha : u ≤ a.exp) (hb : u ≤ b.exp) : cmpD a b = cmpZ (at_ a u) (at_ b u) := by
  unfold cmpD
  have h1 : u ≤ unit a b := by unfold unit; omega
  have h2 : unit a b ≤ a.exp := by unfold unit; omega
  have h3 : unit a b ≤ b.exp := by unfold unit; omega
  rw [at_scale a h1 h2, at_scale b h1 h3, cmpZ_mul]
theorem signD_at {d : Dyd} {u : Int} (hd : mayD d = true) (hu : u ≤ d.exp) : signD d = cmpZ (at_ d u) 0 := by
  obtain ⟨s, m, e⟩ := d
  rw [at_mk]
  unfold signD
  simp only
  by_cases c : m = []
  · subst c
    simp [val, sgn, cmpZ]
  · have hv := val_ne (mayD_may hd) c
    have hp := Nat.two_pow_pos (e - u).toNat
    have : 0 < val m * 2 ^ (e - u).toNat := Nat.mul_pos (by omega) hp
    generalize val m * 2 ^ (e - u).toNat = A at *
    simp only [if_neg c]
    unfold sgn
    cases s
    · simp only [Bool.false_eq_true, if_false]
      exact (cmpZ_gt (by omega)).symm
    · simp only [if_true]
      exact (cmpZ_lt (by omega)).symm
end Go.Dy
