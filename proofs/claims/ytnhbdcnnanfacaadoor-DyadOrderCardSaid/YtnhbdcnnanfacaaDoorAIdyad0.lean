/- Numbers with a binary point, in plain mathematics. -/
import Derived.Test.YtnhbdcnnanfacaaDoorAIspec4
namespace Go.Dy
set_option maxRecDepth 100000
def sgn (s : Bool) (n : Nat) : Int := if s then -(n : Int) else n
theorem Dyd.int_eq (d : Dyd) : d.int = sgn d.neg (val d.mag) := rfl
theorem int_mk (s : Bool) (m : List Nat) (e : Int) : Dyd.int ⟨s, m, e⟩ = sgn s (val m) := rfl
theorem may_dgn {n : Nat} : may (dg n) = true ↔ (dg n).length ≤ 4096 := by
  rw [may_iff, val_dg]; exact ⟨fun h => h.1, fun h => ⟨h, rfl⟩⟩
theorem mayD_iff {s : Bool} {m : List Nat} {e : Int} : mayD ⟨s, m, e⟩ = true ↔ may m = true ∧ ((m = [] ∧ s = false ∧ e = 0) ∨ (m ≠ [] ∧ val m % 2 = 1 ∧ inside e = true)) := by
  unfold mayD
  simp only [Bool.and_eq_true]
  by_cases h : m = []
  · simp [h]
  · simp [h]
theorem inside_iff {e : Int} : inside e = true ↔ -16777216 ≤ e ∧ e ≤ 16777216 := by simp [inside]
theorem mayD_may {s : Bool} {m : List Nat} {e : Int} (h : mayD ⟨s, m, e⟩ = true) : may m = true := (mayD_iff.1 h).1
theorem mayD_exp {s : Bool} {m : List Nat} {e : Int} (h : mayD ⟨s, m, e⟩ = true) : -16777216 ≤ e ∧ e ≤ 16777216 := by
  rcases (mayD_iff.1 h).2 with ⟨_, _, h⟩ | ⟨_, _, h⟩
  · omega
  · exact inside_iff.1 h
theorem mayD_odd {s : Bool} {m : List Nat} {e : Int} (h : mayD ⟨s, m, e⟩ = true) (hm : m ≠ []) : val m % 2 = 1 := by
  rcases (mayD_iff.1 h).2 with ⟨h, _⟩ | ⟨_, h, _⟩
  · exact absurd h hm
  · exact h
theorem mayD_nil {s : Bool} {e : Int} (h : mayD ⟨s, [], e⟩ = true) : s = false ∧ e = 0 := by
  rcases (mayD_iff.1 h).2 with ⟨_, h⟩ | ⟨h, _⟩
  · exact h
  · exact absurd rfl h
theorem mayD_zero : mayD zeroD = true := by decide
theorem may_bl {m : List Nat} (h : may m = true) : bl (val m) ≤ 131072 := by
  have := (length_dg_bl (n := val m) (k := 4096)).1 (by rw [may_dg h]; exact may_len h)
  omega
theorem len_bl {n : Nat} : (dg n).length ≤ 4096 ↔ bl n ≤ 131072 := length_dg_bl (k := 4096)
theorem form_zero (s : Bool) (e : Int) : form s 0 e = zeroD := rfl
theorem form_pos {s : Bool} {n : Nat} {e : Int} (h : n ≠ 0) : form s n e = ⟨s, dg (n / 2 ^ tz n), e + tz n⟩ := by rw [form, if_neg h]
theorem form_odd {s : Bool} {n : Nat} {e : Int} (h : n % 2 = 1) : form s n e = ⟨s, dg n, e⟩ := by
  rw [form_pos (by omega), tz_odd h, Nat.pow_zero, Nat.div_one]
  simp
theorem form_mul (s : Bool) (n k : Nat) (e : Int) : form s (n * 2 ^ k) e = form s n (e + k) := by
  by_cases h : n = 0
  · rw [h, Nat.zero_mul, form_zero, form_zero]
  · have h2 : n * 2 ^ k ≠ 0 := Nat.mul_ne_zero h (Nat.pos_iff_ne_zero.1 (Nat.two_pow_pos k))
    rw [form_pos h2, form_pos h, tz_mul_two_pow h, Nat.pow_add, Nat.mul_div_mul_right _ _ (Nat.two_pow_pos k)]
    rw [show e + ((tz n + k : Nat) : Int) = e + (k : Int) + (tz n : Int) by omega]
theorem form_two (s : Bool) (n : Nat) (e : Int) : form s (2 * n) e = form s n (e + 1) := by
  have := form_mul s n 1 e
  rw [Nat.pow_one, Nat.mul_comm] at this
  exact this
theorem form_self {s : Bool} {m : List Nat} {e : Int} (h : mayD ⟨s, m, e⟩ = true) : form s (val m) e = ⟨s, m, e⟩ := by
  by_cases hm : m = []
  · subst hm
    obtain ⟨rfl, rfl⟩ := mayD_nil h
    rfl
  · rw [form_odd (mayD_odd h hm), may_dg (mayD_may h)]
theorem formZ_sgn (s : Bool) (n : Nat) (e : Int) : formZ (sgn s n) e = form s n e := by
  unfold formZ sgn
  by_cases h : n = 0
  · subst h
    cases s <;> rfl
  · cases s
    · simp only [Bool.false_eq_true, if_false, Int.natAbs_natCast]
      rw [decide_eq_false (by omega)]
    · simp only [if_true, Int.natAbs_neg, Int.natAbs_natCast]
      rw [decide_eq_true (by omega)]
theorem formZ_zero (e : Int) : formZ 0 e = zeroD := rfl
theorem sgn_mul (s : Bool) (n k : Nat) : sgn s n * (k : Int) = sgn s (n * k) := by
  unfold sgn
  cases s
  · simp
  · simp only [if_true, Int.neg_mul, Int.natCast_mul]
theorem sgn_natAbs (z : Int) : z = sgn (decide (z < 0)) z.natAbs := by
  unfold sgn
  by_cases h : z < 0
  · simp only [h, decide_true, if_true]; omega
  · simp only [h, decide_false, Bool.false_eq_true, if_false]; omega
theorem formZ_mul (z : Int) (k : Nat) (e : Int) : formZ (z * 2 ^ k) e = formZ z (e + k) := by
  rw [sgn_natAbs z, show ((2 : Int) ^ k) = ((2 ^ k : Nat) : Int) by simp, sgn_mul, formZ_sgn, formZ_sgn, form_mul]
theorem formZ_self {s : Bool} {m : List Nat} {e : Int} (h : mayD ⟨s, m, e⟩ = true) : formZ (Dyd.int ⟨s, m, e⟩) e = ⟨s, m, e⟩ := by
  rw [int_mk, formZ_sgn, form_self h]
theorem boundD_self {d : Dyd} (h : mayD d = true) : boundD d = (d, 0) := by
  obtain ⟨s, m, e⟩ := d
  unfold boundD
  rw [if_pos (may_len (mayD_may h)), if_pos (by rw [inside_iff]; exact mayD_exp h)]
theorem at_mk (s : Bool) (m : List Nat) (e u : Int) : at_ ⟨s, m, e⟩ u = sgn s (val m * 2 ^ (e - u).toNat) := by
  unfold at_
  rw [int_mk]
  simp only
  rw [show ((2 : Int) ^ (e - u).toNat) = ((2 ^ (e - u).toNat : Nat) : Int) by simp, sgn_mul]
theorem unit_comm (a b : Dyd) : unit a b = unit b a := by unfold unit; omega
theorem addD_comm (a b : Dyd) : addD a b = addD b a := by
  unfold addD
  rw [unit_comm a b, Int.add_comm]
theorem addD_nil {a : Dyd} {s : Bool} {e : Int} (ha : mayD a = true) (h : mayD ⟨s, [], e⟩ = true) : addD a ⟨s, [], e⟩ = a := by
  obtain ⟨rfl, rfl⟩ := mayD_nil h
  obtain ⟨s, m, e⟩ := a
  unfold addD
  have h0 : at_ ⟨false, [], 0⟩ (unit ⟨s, m, e⟩ ⟨false, [], 0⟩) = 0 := by rw [at_mk]; simp [val, sgn]
  rw [h0, Int.add_zero]
  unfold at_
  rw [formZ_mul]
  simp only [unit]
  rw [show (min e 0 + ((e - min e 0).toNat : Int)) = e by omega]
  exact formZ_self ha
/-- the higher one brought down to the lower one's unit -/
theorem addD_gap {s s' : Bool} {m m' : List Nat} {e e' : Int} (h : e' ≤ e) : addD ⟨s, m, e⟩ ⟨s', m', e'⟩ = formZ (sgn s (val m * 2 ^ (e - e').toNat) + sgn s' (val m')) e' := by
  unfold addD
  rw [at_mk, at_mk]
  simp only [unit]
  rw [show min e e' = e' by omega, show (e' - e').toNat = 0 by omega, Nat.pow_zero, Nat.mul_one]
theorem boundD_long {s : Bool} {n : Nat} {e : Int} (ho : n % 2 = 1) (h : 131072 < bl n) : boundD (form s n e) = (zeroD, 3) := by
  rw [form_odd ho, boundD, if_neg]
  intro c
  have := len_bl.1 c
  omega
theorem makeD_dg {s : Bool} {n : Nat} {e : Int} (h : bl n ≤ 131072) : makeD s (dg n) e = boundD (form s n e) := by
  unfold makeD
  rw [if_pos (may_dgn.2 (len_bl.2 h)), val_dg]
theorem addR_dg {a b : List Nat} (ha : may a = true) (hb : may b = true) : addR a b = (if bl (val a + val b) ≤ 131072 then dg (val a + val b) else [], if bl (val a + val b) ≤ 131072 then 0 else 3) := by
  unfold addR
  rw [ha, hb, Bool.and_self, bound_eq]
  simp only [len_bl]
theorem mulR_dg {a b : List Nat} (ha : may a = true) (hb : may b = true) : mulR a b = (if bl (val a * val b) ≤ 131072 then dg (val a * val b) else [], if bl (val a * val b) ≤ 131072 then 0 else 3) := by
  unfold mulR
  rw [ha, hb, Bool.and_self, bound_eq]
  simp only [len_bl]
theorem subR_dg {a b : List Nat} (ha : may a = true) (hb : may b = true) : subR a b = (if val a < val b then ([], 10) else (dg (val a - val b), 0)) := by
  unfold subR subN
  rw [ha, hb]
  rfl
theorem shiftN_neg {a : List Nat} (h : may a = true) (n : Nat) : (shiftN a (-(n : Int))).mag = dg (val a / 2 ^ n) := by
  unfold shiftN
  rw [if_pos h]
  by_cases c : val a = 0
  · rw [if_pos c, c, Nat.zero_div, dg_zero]
  · rw [if_neg c]
    by_cases c1 : -(n : Int) < 0
    · rw [if_pos c1, show (- -(n : Int)).toNat = n by omega]
    · have : n = 0 := by omega
      subst this
      rw [if_neg c1, if_neg]
      · simp
      · have := may_bl h; omega
theorem shiftN_up {a : List Nat} (h : may a = true) (n : Nat) (hn : bl (val a) + n ≤ 131072) : (shiftN a (n : Int)).mag = dg (val a * 2 ^ n) := by
  unfold shiftN
  rw [if_pos h]
  by_cases c : val a = 0
  · rw [if_pos c, c, Nat.zero_mul, dg_zero]
  · rw [if_neg c, if_neg (by omega), if_neg (by omega), Int.toNat_natCast]
theorem bl_lt {a b : Nat} (h : bl a < bl b) : a < b := by
  rcases Nat.lt_or_ge a b with c | c
  · exact c
  · have := bl_mono c; omega
theorem val_ne {m : List Nat} (h : may m = true) (hm : m ≠ []) : val m ≠ 0 := fun e => hm ((may_nil h).1 e)
theorem odd_pow_add {a b k : Nat} (hk : 1 ≤ k) (hb : b % 2 = 1) : (a * 2 ^ k + b) % 2 = 1 := by
  obtain ⟨k, rfl⟩ : ∃ j, k = j + 1 := ⟨k - 1, by omega⟩
  rw [Nat.pow_succ, ← Nat.mul_assoc]
  omega
theorem odd_pow_sub {a b k : Nat} (hk : 1 ≤ k) (hb : b % 2 = 1) (h : b ≤ a * 2 ^ k) : (a * 2 ^ k - b) % 2 = 1 := by
  obtain ⟨k, rfl⟩ : ∃ j, k = j + 1 := ⟨k - 1, by omega⟩
  rw [Nat.pow_succ, ← Nat.mul_assoc] at h ⊢
  omega
theorem odd_mul {a b : Nat} (ha : a % 2 = 1) (hb : b % 2 = 1) : a * b % 2 = 1 := by rw [Nat.mul_mod, ha, hb]
theorem sgn_add_same (s : Bool) (a b : Nat) : sgn s a + sgn s b = sgn s (a + b) := by
  unfold sgn; cases s
  · simp
  · simp only [if_true]; omega
theorem sgn_sub {s s' : Bool} (h : s ≠ s') {a b : Nat} (hab : b ≤ a) : sgn s a + sgn s' b = sgn s (a - b) := by
  unfold sgn; cases s <;> cases s' <;> simp at h ⊢ <;> omega
theorem sgn_sub' {s s' : Bool} (h : s ≠ s') {a b : Nat} (hab : a ≤ b) : sgn s a + sgn s' b = sgn s' (b - a) := by
  rw [Int.add_comm]; exact sgn_sub (Ne.symm h) hab
theorem far_aux {A B K : Nat} (h1 : K + 1 < bl A) (h2 : bl B ≤ K) : K < bl (A + B) ∧ K < bl (A - B) ∧ B ≤ A := by
  have hlt : B < 2 ^ K := bl_le.1 h2
  have hge : 2 ^ (K + 1) ≤ A := lt_bl.1 h1
  have hp : 2 ^ (K + 1) = 2 ^ K * 2 := Nat.pow_succ ..
  refine ⟨lt_bl.2 ?_, lt_bl.2 ?_, ?_⟩ <;> omega
/-- numbers too far apart -/
theorem far_long {s s' : Bool} {m m' : List Nat} {e e' : Int} (h : mayD ⟨s, m, e⟩ = true) (h' : mayD ⟨s', m', e'⟩ = true) (hm : m ≠ []) (hm' : m' ≠ []) (hg : 131073 < e - e' + bl (val m)) :
    boundD (addD ⟨s, m, e⟩ ⟨s', m', e'⟩) = (zeroD, 3) := by
  have b1 := may_bl (mayD_may h)
  have b2 := may_bl (mayD_may h')
  obtain ⟨g, hgg⟩ : ∃ g : Nat, e - e' = g := ⟨(e - e').toNat, by omega⟩
  rw [addD_gap (by omega), hgg, Int.toNat_natCast]
  have o := mayD_odd h' hm'
  have hv := val_ne (mayD_may h) hm
  have hA := bl_mul_two_pow hv g
  obtain ⟨k1, k2, k3⟩ := far_aux (A := val m * 2 ^ g) (K := 131072) (by omega) b2
  by_cases c : s = s'
  · subst c
    rw [sgn_add_same, formZ_sgn]
    exact boundD_long (odd_pow_add (by omega) o) k1
  · rw [sgn_sub c k3, formZ_sgn]
    exact boundD_long (odd_pow_sub (by omega) o k3) k2
theorem cmpZ_neg (a b : Nat) : cmpZ (-(a : Int)) (-(b : Int)) = -cmpZ a b := by
  unfold cmpZ
  split <;> split <;> first | omega | (split <;> omega)
theorem cmpN_cmpZ (a b : Nat) : cmpN a b = cmpZ a b := by
  unfold cmpN cmpZ
  simp only [Int.ofNat_lt]
end Go.Dy
