/- My texts AIquart, AIquart2, AIquart3, AIcutv, AIquart4, AVphase, AIphase1, AIred0, AIspecT, AVred, AIred1, AIspecV, AVmirror, AVlaw17, AImir, AIlaw17, AImirror, in one. -/
import Derived.Test.YtppdoggngcpcpaaDoorK11
namespace Go.Dy
/-! a quotient by something between -/
theorem low_side {y A Q P Qa Qb M E W : Int} (h1 : y * Q ≤ A) (h2 : A ≤ y * Q + E * Q) (a1 : -(M * Q) ≤ A) (a2 : A ≤ M * Q) (q0 : 0 < Qa) (q1 : Qa ≤ P) (q2 : P ≤ Qb) (q3 : Qb - Qa ≤ W) (hM : 0 ≤ M) (hE : 0 ≤ E)
    (hs : (0 ≤ A ∧ Q = Qb) ∨ (A ≤ 0 ∧ Q = Qa)) : y * P ≤ A ∧ A ≤ y * P + (E * Qb + (M + E) * W) ∧ -(M + E) ≤ y ∧ y ≤ M := by
  have hQ : 0 < Q := by rcases hs with h | h <;> omega
  have y1 : y ≤ M := Int.le_of_mul_le_mul_right (by omega : y * Q ≤ M * Q) hQ
  have y2 : -(M + E) ≤ y := by
    refine Int.le_of_mul_le_mul_right (a := Q) ?_ hQ
    rw [Int.neg_mul, Int.add_mul]
    omega
  have hW : 0 ≤ W := by omega
  refine ⟨?_, ?_, y2, y1⟩
  · rcases hs with ⟨h, e⟩ | ⟨h, e⟩
    · subst e
      rcases Int.le_total y 0 with c | c
      · have := Int.mul_nonpos_of_nonpos_of_nonneg c (by omega : 0 ≤ P)
        omega
      · have := Int.mul_le_mul_of_nonneg_left q2 c
        omega
    · subst e
      have c : y ≤ 0 := by
        refine Decidable.byContradiction fun c => ?_
        have := Int.mul_pos (by omega : 0 < y) hQ
        omega
      have := Int.mul_le_mul_of_nonpos_left c q1
      omega
  · rcases hs with ⟨h, e⟩ | ⟨h, e⟩
    · subst e
      have k1 : y * (Q - P) ≤ (M + E) * (Q - P) := Int.mul_le_mul_of_nonneg_right (by omega) (by omega)
      have k2 : (M + E) * (Q - P) ≤ (M + E) * W := Int.mul_le_mul_of_nonneg_left (by omega) (by omega)
      rw [Int.mul_sub] at k1
      omega
    · subst e
      have k1 : (-y) * (P - Q) ≤ (M + E) * (P - Q) := Int.mul_le_mul_of_nonneg_right (by omega) (by omega)
      have k2 : (M + E) * (P - Q) ≤ (M + E) * W := Int.mul_le_mul_of_nonneg_left (by omega) (by omega)
      have k3 : E * Q ≤ E * Qb := Int.mul_le_mul_of_nonneg_left (by omega) hE
      rw [Int.neg_mul, Int.mul_sub] at k1
      omega
theorem high_side {y A Q P Qa Qb M E W : Int} (h1 : A ≤ y * Q) (h2 : y * Q ≤ A + E * Q) (a1 : -(M * Q) ≤ A) (a2 : A ≤ M * Q) (q0 : 0 < Qa) (q1 : Qa ≤ P) (q2 : P ≤ Qb) (q3 : Qb - Qa ≤ W) (hM : 0 ≤ M) (hE : 0 ≤ E)
    (hs : (A ≤ 0 ∧ Q = Qb) ∨ (0 ≤ A ∧ Q = Qa)) : A ≤ y * P ∧ y * P ≤ A + (E * Qb + (M + E) * W) ∧ -M ≤ y ∧ y ≤ M + E := by
  have h := low_side (y := -y) (A := -A) (Q := Q) (P := P) (Qa := Qa) (Qb := Qb) (M := M) (E := E) (W := W) (by rw [Int.neg_mul]; omega) (by rw [Int.neg_mul]; omega) (by omega) (by omega) q0 q1 q2 q3 hM hE (by omega)
  rw [Int.neg_mul] at h
  omega
/-- the whole number that is nearest to X / P -/
def nearZ (X P : Int) : Int := (2 * X + P) / (2 * P)
theorem nearZ_eq {X P k : Int} (hP : 0 < P) (h1 : 2 * (k * P) ≤ 2 * X + P) (h2 : 2 * X + P < 2 * (k * P) + 2 * P) : nearZ X P = k := by
  unfold nearZ
  refine ediv_eq (by omega) ?_ ?_
  · rw [Int.mul_left_comm]; exact h1
  · rw [Int.mul_left_comm, Int.add_mul, Int.one_mul, Int.mul_add]; exact h2
/-- both ends near one whole number: so is what lies between -/
theorem near_between {y z X P D k : Int} (hP : 0 < P) (hD : 0 < D) (h1 : y * P ≤ X * D) (h2 : X * D ≤ z * P) (k1 : 2 * (k * D) ≤ 2 * y + D) (k2 : 2 * z + D < 2 * (k * D) + 2 * D) : nearZ X P = k := by
  have e1 := Int.mul_le_mul_of_nonneg_right k1 (Int.le_of_lt hP)
  have e2 := Int.mul_lt_mul_of_pos_right k2 hP
  rw [Int.mul_assoc, Int.add_mul, Int.mul_assoc 2 y] at e1
  rw [Int.add_mul, Int.add_mul, Int.mul_assoc 2 z, Int.mul_assoc 2 (k * D), Int.mul_assoc 2 D] at e2
  have c1 : k * D * P = k * P * D := Int.mul_right_comm _ _ _
  have c2 : D * P = P * D := Int.mul_comm _ _
  rw [c1, c2] at e1 e2
  refine nearZ_eq hP (Int.le_of_mul_le_mul_right (a := D) ?_ hD) (Int.lt_of_mul_lt_mul_right (a := D) ?_ (Int.le_of_lt hD))
  · rw [Int.mul_assoc, Int.add_mul, Int.mul_assoc 2 X]
    omega
  · rw [Int.add_mul, Int.add_mul, Int.mul_assoc 2 X, Int.mul_assoc 2 (k * P), Int.mul_assoc 2 P]
    omega
/-- the whole number that is nearest to y / D -/
theorem floor_half {y D k : Int} (hD : 0 < D) (h1 : k * D ≤ y + D) (h2 : y + D < (k + 1) * D) : k * D ≤ y + D ∧ y + D < k * D + D := by
  rw [Int.add_mul] at h2
  omega
/-! an angle -/
theorem angle_facts {x : Dyd} (h : angle x) : mayD x = true ∧ -1280 ≤ x.exp ∧ x.exp ≤ 1100 ∧ bl (val x.mag) ≤ 1280 ∧ Fit x 1280 1280 ∧ (∀ V : Nat, 1280 ≤ V → (at_ x (-(V : Int))).natAbs < 2 ^ (1100 + V) ∧ 2 ^ (V - 1) ≤ (at_ x (-(V : Int))).natAbs) ∧ (at_ x (-1280)).natAbs < 2 ^ (1280 + x.exp + 1280).toNat := by
  obtain ⟨s, m, e⟩ := x
  obtain ⟨h1, h2, h3, h4, h5⟩ := h
  simp only at h2 h3
  have hm := mayD_may h1
  have hv := val_ne hm h2
  have hb : bl (val m) ≤ 1280 := (length_dg_bl (n := val m) (k := 40)).1 (by rw [may_dg hm]; exact h3)
  have ht : topD ⟨s, m, e⟩ = e + bl (val m) := by unfold topD; rw [if_neg h2]
  rw [ht] at h4 h5
  have hbp := bl_pos.2 hv
  have h0 : -1280 ≤ e := by omega
  have h6 : e ≤ 1100 := by omega
  have hat : ∀ V : Nat, 1280 ≤ V → (at_ ⟨s, m, e⟩ (-(V : Int))).natAbs = val m * 2 ^ (e + V).toNat := fun V hV => by
    rw [at_mk, natAbs_sgn, show (e - -(V : Int)).toNat = (e + V).toNat by omega]
  refine ⟨h1, h0, h6, hb, ⟨h1, hb, by simp only; omega, by simp only; omega⟩, fun V hV => ?_, ?_⟩
  · rw [hat V hV]
    have hbl := bl_mul_two_pow hv (e + V).toNat
    constructor
    · refine Nat.lt_of_lt_of_le (lt_two_bl _) (Nat.pow_le_pow_right (by decide) ?_)
      omega
    · refine Nat.le_trans (Nat.pow_le_pow_right (by decide) ?_) (two_bl_le (Nat.mul_ne_zero hv (Nat.pos_iff_ne_zero.1 (Nat.two_pow_pos _))))
      omega
  · have h7 := hat 1280 (Nat.le_refl _)
    rw [show (-((1280 : Nat) : Int)) = (-1280 : Int) from rfl] at h7
    rw [h7]
    have hbl := bl_mul_two_pow hv (e + ((1280 : Nat) : Int)).toNat
    refine Nat.lt_of_lt_of_le (lt_two_bl _) (Nat.pow_le_pow_right (by decide) ?_)
    simp only
    omega
theorem formZ_fit2 {z : Int} {e : Int} {L E : Nat} (hb : bl z.natAbs ≤ L) (h1 : -(E : Int) ≤ e) (h2 : e + (L : Int) ≤ E) (hL : L ≤ 131072) (hE : E ≤ 16777216) : Fit (formZ z e) L E := formZ_fit hb h1 h2 hL hE
/-- a quarter of the circle: between, near, of moderate size -/
theorem q_facts {n V : Nat} (h1 : 20 ≤ n) (h2 : n ≤ 8192) (hV : 20000 ≤ V) : (Fit (qLo n) 8193 8300 ∧ (qLo n).neg = false ∧ (qLo n).mag ≠ []) ∧ (Fit (qHi n) 8193 8300 ∧ (qHi n).neg = false ∧ (qHi n).mag ≠ []) ∧ mid (piLo n) ∧ mid (piHi n) ∧
    at_ (qLo n) (-(V : Int)) ≤ quart V ∧ quart V ≤ at_ (qHi n) (-(V : Int)) ∧ at_ (qHi n) (-(V : Int)) - at_ (qLo n) (-(V : Int)) ≤ 2 ^ (V + 5 - n) ∧ 2 ^ (V - 1) ≤ at_ (qLo n) (-(V : Int)) ∧ at_ (qHi n) (-(V : Int)) ≤ 2 ^ (V + 3) := by
  obtain ⟨L, H, tL, tH, e1, e2, e3, e4, L0, H0, bL, bH, tL1, tH1, hq⟩ := q_span (show 1 ≤ n by omega) h2
  obtain ⟨k1, k2, k3, k4, k5⟩ := hq V (by omega)
  have v1 : at_ (qLo n) (-(V : Int)) = L * 2 ^ (V + tL - (n + 21)) := by
    rw [e1, at_formZ (by omega)]
    congr 2
    omega
  have v2 : at_ (qHi n) (-(V : Int)) = H * 2 ^ (V + tH - (n + 21)) := by
    rw [e2, at_formZ (by omega)]
    congr 2
    omega
  rw [v1, v2]
  have p1 := pos_formZ (e := -(n : Int) - 21 + tL) L0
  have p2 := pos_formZ (e := -(n : Int) - 21 + tH) H0
  refine ⟨?_, ?_, ?_, ?_, k1, k2, k3, ?_, k5⟩
  · rw [e1]; exact ⟨formZ_fit (by omega) (by omega) (by omega) (by decide) (by decide), p1⟩
  · rw [e2]; exact ⟨formZ_fit (by omega) (by omega) (by omega) (by decide) (by decide), p2⟩
  · rw [e3]; exact fit_mid (formZ_fit (L := 8193) (E := 9000) (by omega) (by omega) (by omega) (by decide) (by decide)) (by decide)
  · rw [e4]; exact fit_mid (formZ_fit (L := 8193) (E := 9000) (by omega) (by omega) (by omega) (by decide) (by decide)) (by decide)
  · have h5 : (2 : Int) ^ (V + 5 - n) ≤ 2 ^ (V - 1) := two_le (by omega)
    have h6 : (2 : Int) ^ V = 2 ^ (V - 1) * 2 := by rw [← Int.pow_succ]; congr 1; omega
    omega
theorem quart_lo {V : Nat} (hV : prec + 1 ≤ V) : 3 * 2 ^ V < 2 * quart V := by
  have hr := pi_range
  simp only [Bool.and_eq_true, decide_eq_true_eq] at hr
  have hn := piN_nat
  have key : ∀ q : Nat, 3 * 2 ^ q < piN.toNat → (3 : Int) * 2 ^ q < piN := fun q h => by
    have h2 := Int.ofNat_lt.2 h
    rw [piN_nat, Int.natCast_mul, pow_cast] at h2
    exact h2
  have h1 := key _ hr.1
  clear hr hn key
  unfold quart
  have e : (2 : Int) ^ V = 2 ^ prec * 2 * 2 ^ (V - (prec + 1)) := by
    rw [← Int.pow_succ, ← Int.pow_add]
    have he : prec + 1 + (V - (prec + 1)) = V := by omega
    rw [he]
  have hp : (0 : Int) < 2 ^ (V - (prec + 1)) := Int.pow_pos (by decide)
  rw [e]
  generalize (2 : Int) ^ (V - (prec + 1)) = w at *
  generalize (2 : Int) ^ prec = M at *
  have := Int.mul_lt_mul_of_pos_right h1 hp
  have e2 : 3 * (M * 2 * w) = 2 * (3 * M * w) := by
    rw [Int.mul_assoc M, Int.mul_left_comm M 2, Int.mul_assoc 3, Int.mul_left_comm 3 2]
  omega
end Go.Dy

namespace Go.Dy
theorem abs_lt_pow {z : Int} {k : Nat} (h : z.natAbs < 2 ^ k) : -(2 ^ k) < z ∧ z < 2 ^ k := by
  have := pow_cast k
  omega
theorem fit_half : Fit (unitOf (-1)) 8193 61179 := ⟨unit_may (by decide), by decide, by decide, by decide⟩
theorem k_facts {x : Dyd} (hx : angle x) {n V : Nat} (h1 : 20 ≤ n) (h2 : n ≤ 8192) (hV : 400000 ≤ V) :
    (Fit (kLo n x) 8193 61179 ∧ Fit (kHi n x) 8193 61179) ∧
    at_ (kLo n x) (-(V : Int)) * quart V ≤ at_ x (-(V : Int)) * 2 ^ V ∧ at_ x (-(V : Int)) * 2 ^ V ≤ at_ (kLo n x) (-(V : Int)) * quart V + 2 ^ (2 * V + 1108 - n) ∧
    at_ x (-(V : Int)) * 2 ^ V ≤ at_ (kHi n x) (-(V : Int)) * quart V ∧ at_ (kHi n x) (-(V : Int)) * quart V ≤ at_ x (-(V : Int)) * 2 ^ V + 2 ^ (2 * V + 1108 - n) ∧
    (-(2 ^ (V + 1102)) ≤ at_ (kLo n x) (-(V : Int)) ∧ at_ (kLo n x) (-(V : Int)) ≤ 2 ^ (V + 1102)) ∧ (-(2 ^ (V + 1102)) ≤ at_ (kHi n x) (-(V : Int)) ∧ at_ (kHi n x) (-(V : Int)) ≤ 2 ^ (V + 1102)) := by
  obtain ⟨x1, x2, x3, x4, x5, x6, -⟩ := angle_facts hx
  have x6 := (x6 V (by omega)).1
  obtain ⟨⟨fa, sa, na⟩, ⟨fb, sb, nb⟩, -, -, q1, q2, q3, q4, q5⟩ := q_facts h1 h2 (show 20000 ≤ V by omega)
  have hA : at_ x (-(2 * V : Int)) = at_ x (-(V : Int)) * 2 ^ V := by
    have := at_scale x (u := -(V : Int)) (v := -(2 * V : Int)) (by omega) (by omega)
    rw [this]
    congr 2
    omega
  have fx : Fit x 8193 8300 := x5.mono (by decide) (by decide)
  have g1 := fa.bits
  have g2 := fa.lo
  have g3 := fa.hi
  have g4 := fb.bits
  have g5 := fb.lo
  have g6 := fb.hi
  have xb := abs_lt_pow x6
  have Q0 : (0 : Int) < 2 ^ (V - 1) := Int.pow_pos (by decide)
  have D0 : (0 : Int) < 2 ^ V := Int.pow_pos (by decide)
  have M0 : (0 : Int) < 2 ^ (V + 1101) := Int.pow_pos (by decide)
  have E0 : (0 : Int) < 2 ^ (V + 1101 - n) := Int.pow_pos (by decide)
  have W0 : (0 : Int) < 2 ^ (V + 5 - n) := Int.pow_pos (by decide)
  -- how great the dividend is
  have big : ∀ Q : Int, 2 ^ (V - 1) ≤ Q → -(2 ^ (V + 1101) * Q) < at_ x (-(V : Int)) * 2 ^ V ∧ at_ x (-(V : Int)) * 2 ^ V < 2 ^ (V + 1101) * Q := by
    intro Q hQ
    have e1 : (2 : Int) ^ (1100 + V) * 2 ^ V = 2 ^ (V + 1101) * 2 ^ (V - 1) := by rw [← Int.pow_add, ← Int.pow_add]; congr 1; omega
    have e2 := Int.mul_le_mul_of_nonneg_left hQ (Int.le_of_lt M0)
    have e3 := Int.mul_lt_mul_of_pos_right xb.1 D0
    have e4 := Int.mul_lt_mul_of_pos_right xb.2 D0
    rw [Int.neg_mul] at e3
    omega
  have bigN : ∀ Q : Int, 2 ^ (V - 1) ≤ Q → (at_ x (-(2 * V : Int))).natAbs < 2 ^ (V + 1101) * Q.natAbs := by
    intro Q hQ
    have := big Q hQ
    rw [hA]
    have e : ((2 ^ (V + 1101) * Q.natAbs : Nat) : Int) = 2 ^ (V + 1101) * Q := by
      rw [Int.natCast_mul, pow_cast]
      congr 1
      omega
    omega
  -- what the distance comes to
  have hΔ : 2 ^ (V + 1101 - n) * at_ (qHi n) (-(V : Int)) + (2 ^ (V + 1101) + 2 ^ (V + 1101 - n)) * 2 ^ (V + 5 - n) ≤ 2 ^ (2 * V + 1108 - n) := by
    have c1 : 2 ^ (V + 1101 - n) * at_ (qHi n) (-(V : Int)) ≤ 2 ^ (V + 1101 - n) * 2 ^ (V + 3) := Int.mul_le_mul_of_nonneg_left q5 (Int.le_of_lt E0)
    have c2 : (2 : Int) ^ (V + 1101 - n) ≤ 2 ^ (V + 1101) := two_le (by omega)
    have c3 : (2 ^ (V + 1101) + 2 ^ (V + 1101 - n)) * 2 ^ (V + 5 - n) ≤ (2 ^ (V + 1101) + 2 ^ (V + 1101)) * (2 : Int) ^ (V + 5 - n) := Int.mul_le_mul_of_nonneg_right (by omega) (Int.le_of_lt W0)
    have e1 : (2 : Int) ^ (V + 1101 - n) * 2 ^ (V + 3) = 2 ^ (2 * V + 1104 - n) := by rw [← Int.pow_add]; congr 1; omega
    have e2 : (2 : Int) ^ (V + 1101) * 2 ^ (V + 5 - n) = 2 ^ (2 * V + 1106 - n) := by rw [← Int.pow_add]; congr 1; omega
    have e3 : (2 : Int) ^ (2 * V + 1104 - n) ≤ 2 ^ (2 * V + 1106 - n) := two_le (by omega)
    have e4 : (2 : Int) ^ (2 * V + 1108 - n) = 2 ^ (2 * V + 1106 - n) * 4 := by
      rw [show (4 : Int) = 2 ^ 2 by decide, ← Int.pow_add]; congr 1; omega
    have c4 : (2 ^ (V + 1101) + 2 ^ (V + 1101)) * (2 : Int) ^ (V + 5 - n) = 2 ^ (2 * V + 1106 - n) + 2 ^ (2 * V + 1106 - n) := by rw [Int.add_mul, e2]
    have e5 : (0 : Int) < 2 ^ (2 * V + 1106 - n) := Int.pow_pos (by decide)
    rw [c4] at c3
    rw [e1] at c1
    omega
  have qb1 : 2 ^ (V - 1) ≤ at_ (qHi n) (-(V : Int)) := by omega
  have hMb : (2 : Int) ^ (V + 1101) + 2 ^ (V + 1101 - n) ≤ 2 ^ (V + 1102) := by
    have c2 : (2 : Int) ^ (V + 1101 - n) ≤ 2 ^ (V + 1101) := two_le (by omega)
    have e : (2 : Int) ^ (V + 1102) = 2 ^ (V + 1101) * 2 := by rw [← Int.pow_succ]
    omega
  have hXs : x.neg = false ∧ 0 ≤ at_ x (-(V : Int)) * 2 ^ V ∨ x.neg = true ∧ at_ x (-(V : Int)) * 2 ^ V ≤ 0 := by
    obtain ⟨s, m, e⟩ := x
    rw [at_mk]
    cases s
    · left
      exact ⟨rfl, Int.mul_nonneg (by unfold sgn; simp only [Bool.false_eq_true, if_false]; omega) (Int.le_of_lt D0)⟩
    · right
      exact ⟨rfl, Int.mul_nonpos_of_nonpos_of_nonneg (by unfold sgn; simp only [if_true]; omega) (Int.le_of_lt D0)⟩
  have lowOf : ∀ q : Dyd, Fit q 8193 8300 → q.neg = false → q.mag ≠ [] → 2 ^ (V - 1) ≤ at_ q (-(V : Int)) → (0 ≤ at_ x (-(V : Int)) * 2 ^ V ∧ at_ q (-(V : Int)) = at_ (qHi n) (-(V : Int)) ∨ at_ x (-(V : Int)) * 2 ^ V ≤ 0 ∧ at_ q (-(V : Int)) = at_ (qLo n) (-(V : Int))) →
      Fit (quoE x q n false) 8193 61179 ∧ at_ (quoE x q n false) (-(V : Int)) * quart V ≤ at_ x (-(V : Int)) * 2 ^ V ∧ at_ x (-(V : Int)) * 2 ^ V ≤ at_ (quoE x q n false) (-(V : Int)) * quart V + 2 ^ (2 * V + 1108 - n) ∧
      -(2 ^ (V + 1102)) ≤ at_ (quoE x q n false) (-(V : Int)) ∧ at_ (quoE x q n false) (-(V : Int)) ≤ 2 ^ (V + 1102) := by
    intro q fq sq nq hq hs
    have b1 := fq.bits
    have b2 := fq.lo
    have b3 := fq.hi
    have hl := quoE_low (n := n) x1 fq.may sq nq (by omega) (V := V) (by omega) (by omega) (by omega) (by omega)
    have hn := hl.2 (V + 1101) (by omega) (bigN _ hq)
    rw [hA] at hl hn
    have hb := big _ hq
    have r := low_side (P := quart V) (Qa := at_ (qLo n) (-(V : Int))) (Qb := at_ (qHi n) (-(V : Int))) (M := 2 ^ (V + 1101)) (E := 2 ^ (V + 1101 - n)) (W := 2 ^ (V + 5 - n)) hl.1 hn (by omega) (by omega) (by omega) q1 q2 q3 (Int.le_of_lt M0) (Int.le_of_lt E0) hs
    refine ⟨(quo_fit fx fq sq nq ⟨by omega, by omega⟩ (by decide) _).mono (by omega) (by decide), r.1, by omega, by omega, by omega⟩
  have highOf : ∀ q : Dyd, Fit q 8193 8300 → q.neg = false → q.mag ≠ [] → 2 ^ (V - 1) ≤ at_ q (-(V : Int)) → (at_ x (-(V : Int)) * 2 ^ V ≤ 0 ∧ at_ q (-(V : Int)) = at_ (qHi n) (-(V : Int)) ∨ 0 ≤ at_ x (-(V : Int)) * 2 ^ V ∧ at_ q (-(V : Int)) = at_ (qLo n) (-(V : Int))) →
      Fit (quoE x q n true) 8193 61179 ∧ at_ x (-(V : Int)) * 2 ^ V ≤ at_ (quoE x q n true) (-(V : Int)) * quart V ∧ at_ (quoE x q n true) (-(V : Int)) * quart V ≤ at_ x (-(V : Int)) * 2 ^ V + 2 ^ (2 * V + 1108 - n) ∧
      -(2 ^ (V + 1102)) ≤ at_ (quoE x q n true) (-(V : Int)) ∧ at_ (quoE x q n true) (-(V : Int)) ≤ 2 ^ (V + 1102) := by
    intro q fq sq nq hq hs
    have b1 := fq.bits
    have b2 := fq.lo
    have b3 := fq.hi
    have hl := quoE_high (n := n) x1 fq.may sq nq (by omega) (V := V) (by omega) (by omega) (by omega) (by omega)
    have hn := hl.2 (V + 1101) (by omega) (bigN _ hq)
    rw [hA] at hl hn
    have hb := big _ hq
    have r := high_side (P := quart V) (Qa := at_ (qLo n) (-(V : Int))) (Qb := at_ (qHi n) (-(V : Int))) (M := 2 ^ (V + 1101)) (E := 2 ^ (V + 1101 - n)) (W := 2 ^ (V + 5 - n)) hl.1 hn (by omega) (by omega) (by omega) q1 q2 q3 (Int.le_of_lt M0) (Int.le_of_lt E0) hs
    refine ⟨(quo_fit fx fq sq nq ⟨by omega, by omega⟩ (by decide) _).mono (by omega) (by decide), r.1, by omega, by omega, by omega⟩
  unfold kLo kHi
  rcases hXs with ⟨s0, c⟩ | ⟨s0, c⟩
  · rw [s0]
    simp only [cond_false]
    obtain ⟨r1, r2, r3, r4, r5⟩ := lowOf (qHi n) fb sb nb qb1 (.inl ⟨c, rfl⟩)
    obtain ⟨t1, t2, t3, t4, t5⟩ := highOf (qLo n) fa sa na q4 (.inr ⟨c, rfl⟩)
    exact ⟨⟨r1, t1⟩, r2, r3, t2, t3, ⟨r4, r5⟩, t4, t5⟩
  · rw [s0]
    simp only [cond_true]
    obtain ⟨r1, r2, r3, r4, r5⟩ := lowOf (qLo n) fa sa na q4 (.inr ⟨c, rfl⟩)
    obtain ⟨t1, t2, t3, t4, t5⟩ := highOf (qHi n) fb sb nb qb1 (.inl ⟨c, rfl⟩)
    exact ⟨⟨r1, t1⟩, r2, r3, t2, t3, ⟨r4, r5⟩, t4, t5⟩
/-- the whole number below a number and a half -/
theorem near_facts {d : Dyd} (hf : Fit d 8193 61179) {V K : Nat} (hV : 400000 ≤ V) (hK : K = 1102) (hb1 : -(2 ^ (V + 1102)) ≤ at_ d (-(V : Int))) (hb2 : at_ d (-(V : Int)) ≤ 2 ^ (V + 1102)) :
    mayD (addD d (unitOf (-1))) = true ∧ mayD (floorD (addD d (unitOf (-1)))) = true ∧ 0 ≤ (floorD (addD d (unitOf (-1)))).exp ∧ Fit (floorD (addD d (unitOf (-1)))) 1104 1104 ∧
    2 * (at_ (floorD (addD d (unitOf (-1)))) 0 * 2 ^ V) ≤ 2 * at_ d (-(V : Int)) + 2 ^ V ∧ 2 * at_ d (-(V : Int)) + 2 ^ V < 2 * (at_ (floorD (addD d (unitOf (-1)))) 0 * 2 ^ V) + 2 * 2 ^ V ∧ (at_ (floorD (addD d (unitOf (-1)))) 0).natAbs ≤ 2 ^ (K + 1) := by
  have f1 := hf.lo
  have fa := (fit_add hf fit_half (by decide) (by decide)).1
  have fl := floor_fit fa (by decide) (by decide)
  have a1 := fa.lo
  have hv := floor_val fa.may (V := V) (by omega)
  have hat : at_ (addD d (unitOf (-1))) (-(V : Int)) = at_ d (-(V : Int)) + 2 ^ (V - 1) := by
    rw [at_addD (by omega) (by show -(V : Int) ≤ -1; omega), unit_at _ _ (by omega)]
    congr 2
    omega
  rw [hat] at hv
  obtain ⟨v0, v1, v2⟩ := hv
  have e1 : (2 : Int) ^ V = 2 * 2 ^ (V - 1) := by rw [Int.mul_comm, ← Int.pow_succ]; congr 1; omega
  have D0 : (0 : Int) < 2 ^ V := Int.pow_pos (by decide)
  rw [Int.add_mul, Int.one_mul] at v2
  have hk : (at_ (floorD (addD d (unitOf (-1)))) 0).natAbs ≤ 2 ^ (K + 1) := by
    have e2 : (2 : Int) ^ (V + 1102) = 2 ^ K * 2 ^ V := by rw [← Int.pow_add]; congr 1; omega
    rw [e2] at hb1 hb2
    have k1 : at_ (floorD (addD d (unitOf (-1)))) 0 < 2 ^ K + 1 := by
      refine Int.lt_of_mul_lt_mul_right (a := 2 ^ V) ?_ (Int.le_of_lt D0)
      rw [Int.add_mul, Int.one_mul]
      omega
    have k2 : -(2 ^ K) - 1 ≤ at_ (floorD (addD d (unitOf (-1)))) 0 := by
      refine Int.le_of_mul_le_mul_right (a := 2 ^ V) ?_ D0
      rw [Int.sub_mul, Int.neg_mul, Int.one_mul]
      omega
    have e3 := pow_cast K
    have e4 : (2 : Nat) ^ (K + 1) = 2 ^ K * 2 := Nat.pow_succ ..
    have e5 : 0 < (2 : Nat) ^ K := Nat.two_pow_pos _
    rw [e4]
    generalize (2 : Nat) ^ K = z at *
    omega
  refine ⟨fa.may, fl.1.may, v0, ?_, by omega, by omega, hk⟩
  have hz := formZ_at fl.1.may v0
  rw [← hz]
  have hb := bl_mono hk
  have e6 : bl (2 ^ (K + 1)) = 1104 := by
    have := bl_mul_two_pow (n := 1) (by decide) (K + 1)
    rw [Nat.one_mul] at this
    rw [this, show bl 1 = 1 from rfl]
    omega
  rw [e6] at hb
  exact formZ_fit hb (by decide) (by decide) (by decide) (by decide)
theorem cmp_eq_iff {a b : Dyd} {u : Int} (ha : u ≤ a.exp) (hb : u ≤ b.exp) : cmpD a b = 0 ↔ at_ a u = at_ b u := by
  rw [cmpD_at ha hb]
  unfold cmpZ
  constructor
  · intro h
    split at h
    · exact absurd h (by decide)
    · split at h
      · exact absurd h (by decide)
      · omega
  · intro h
    rw [if_neg (by omega), if_neg (by omega)]
end Go.Dy

namespace Go.Dy
theorem min4_cases {a b : Dyd} : min4 a b a b = a ∨ min4 a b a b = b := by
  have h : ∀ x y : Dyd, minD x y = x ∨ minD x y = y := fun x y => by unfold minD; split <;> simp
  unfold min4
  rcases h a b with e | e <;> rw [e] <;> rcases h _ a with e | e <;> rw [e] <;> rcases h _ b with e | e <;> rw [e] <;> simp
theorem max4_cases {a b : Dyd} : max4 a b a b = a ∨ max4 a b a b = b := by
  have h : ∀ x y : Dyd, maxD x y = x ∨ maxD x y = y := fun x y => by unfold maxD; split <;> simp
  unfold max4
  rcases h a b with e | e <;> rw [e] <;> rcases h _ a with e | e <;> rw [e] <;> rcases h _ b with e | e <;> rw [e] <;> simp
theorem min4_le {a b : Dyd} {v : Int} (ha : v ≤ a.exp) (hb : v ≤ b.exp) : at_ (min4 a b a b) v ≤ at_ a v ∧ at_ (min4 a b a b) v ≤ at_ b v := by
  unfold min4
  have h : ∀ x y : Dyd, (x = a ∨ x = b) → (y = a ∨ y = b) → (minD x y = a ∨ minD x y = b) ∧ at_ (minD x y) v ≤ at_ x v ∧ at_ (minD x y) v ≤ at_ y v := by
    intro x y hx hy
    have hxe : v ≤ x.exp := by rcases hx with e | e <;> rw [e] <;> assumption
    have hye : v ≤ y.exp := by rcases hy with e | e <;> rw [e] <;> assumption
    obtain ⟨m1, m2, m3⟩ := min_at hxe hye
    refine ⟨?_, m1, m2⟩
    rcases m3 with e | e <;> rw [e] <;> assumption
  obtain ⟨c1, l1, l2⟩ := h a b (.inl rfl) (.inr rfl)
  obtain ⟨c2, l3, l4⟩ := h (minD a b) a c1 (.inl rfl)
  obtain ⟨c3, l5, l6⟩ := h (minD (minD a b) a) b c2 (.inr rfl)
  omega
theorem max4_ge {a b : Dyd} {v : Int} (ha : v ≤ a.exp) (hb : v ≤ b.exp) : at_ a v ≤ at_ (max4 a b a b) v ∧ at_ b v ≤ at_ (max4 a b a b) v := by
  unfold max4
  have h : ∀ x y : Dyd, (x = a ∨ x = b) → (y = a ∨ y = b) → (maxD x y = a ∨ maxD x y = b) ∧ at_ x v ≤ at_ (maxD x y) v ∧ at_ y v ≤ at_ (maxD x y) v := by
    intro x y hx hy
    have hxe : v ≤ x.exp := by rcases hx with e | e <;> rw [e] <;> assumption
    have hye : v ≤ y.exp := by rcases hy with e | e <;> rw [e] <;> assumption
    obtain ⟨m1, m2, m3⟩ := max_at hxe hye
    refine ⟨?_, m1, m2⟩
    rcases m3 with e | e <;> rw [e] <;> assumption
  obtain ⟨c1, l1, l2⟩ := h a b (.inl rfl) (.inr rfl)
  obtain ⟨c2, l3, l4⟩ := h (maxD a b) a c1 (.inl rfl)
  obtain ⟨c3, l5, l6⟩ := h (maxD (maxD a b) a) b c2 (.inr rfl)
  omega
theorem neg_at {d : Dyd} (v : Int) : (d.neg = false → 0 ≤ at_ d v) ∧ (d.neg = true → at_ d v ≤ 0) := by
  obtain ⟨s, m, e⟩ := d
  rw [at_mk]
  unfold sgn
  cases s
  · refine ⟨fun _ => ?_, fun h => by cases h⟩
    simp only [Bool.false_eq_true, if_false]
    omega
  · refine ⟨fun h => (by cases h), fun _ => ?_⟩
    simp only [if_true]
    omega
theorem sub_at {a b : Dyd} {u : Int} (ha : u ≤ a.exp) (hb : u ≤ b.exp) : at_ (subD a b) u = at_ a u - at_ b u := by
  unfold subD
  rw [at_addD ha (show u ≤ (negD b).exp from hb), at_negD, Int.sub_eq_add_neg]
theorem fit_sub {a b : Dyd} {L E : Nat} (ha : Fit a L E) (hb : Fit b L E) (hL : L + 2 * E + 1 ≤ 131072) (hE : L + 3 * E + 1 ≤ 16777216) : Fit (subD a b) (L + 2 * E + 1) (L + 3 * E + 1) := (fit_add ha (fit_neg hb) hL hE).1
/-- a product with what lies between, rounded outwards -/
theorem t_facts {n V K : Nat} (h1 : 20 ≤ n) (h2 : n ≤ 8192) (hV : 400000 ≤ V) (hK : K = 1103) {k : Dyd} (fk : Fit k 1104 1104) (k0 : 0 ≤ k.exp) (kb : (at_ k 0).natAbs ≤ 2 ^ K) :
    mid (mulD k (qLo n)) ∧ mid (mulD k (qHi n)) ∧ Fit (tLo n k) 8193 57566 ∧ Fit (tHi n k) 8193 57566 ∧
    at_ (tLo n k) (-(V : Int)) ≤ at_ k 0 * quart V ∧ at_ k 0 * quart V ≤ at_ (tHi n k) (-(V : Int)) ∧
    at_ k 0 * quart V ≤ at_ (tLo n k) (-(V : Int)) + (2 ^ (V + 1108 - n) + 2 ^ (V - 7085)) ∧ at_ (tHi n k) (-(V : Int)) ≤ at_ k 0 * quart V + (2 ^ (V + 1108 - n) + 2 ^ (V - 7085)) ∧
    (at_ (tLo n k) (-(V : Int))).natAbs < 2 ^ (V + 1108) ∧ (at_ (tHi n k) (-(V : Int))).natAbs < 2 ^ (V + 1108) := by
  obtain ⟨⟨fa, sa, na⟩, ⟨fb, sb, nb⟩, -, -, q1, q2, q3, q4, q5⟩ := q_facts h1 h2 (show 20000 ≤ V by omega)
  have fk' : Fit k 8193 8300 := fk.mono (by decide) (by decide)
  have ma := (fit_mul fk' fa (by decide) (by decide)).1
  have mb := (fit_mul fk' fb (by decide) (by decide)).1
  have ea := fa.lo
  have eb := fb.lo
  have va : at_ (mulD k (qLo n)) (-(V : Int)) = at_ k 0 * at_ (qLo n) (-(V : Int)) := by
    have := at_mulD (a := k) (b := qLo n) (u := 0) (v := -(V : Int)) k0 (by omega)
    rwa [Int.zero_add] at this
  have vb : at_ (mulD k (qHi n)) (-(V : Int)) = at_ k 0 * at_ (qHi n) (-(V : Int)) := by
    have := at_mulD (a := k) (b := qHi n) (u := 0) (v := -(V : Int)) k0 (by omega)
    rwa [Int.zero_add] at this
  have xa := ma.lo
  have xb := mb.lo
  have Q0 : (0 : Int) < 2 ^ (V - 1) := Int.pow_pos (by decide)
  -- how far the two products lie from the exact one
  have W0 : (0 : Int) < 2 ^ (V + 5 - n) := Int.pow_pos (by decide)
  have hkb : -(2 ^ K) ≤ at_ k 0 ∧ at_ k 0 ≤ 2 ^ K := by
    have := pow_cast K
    omega
  have eW : (2 : Int) ^ K * 2 ^ (V + 5 - n) = 2 ^ (V + 1108 - n) := by rw [← Int.pow_add]; congr 1; omega
  have eQ : (2 : Int) ^ K * 2 ^ (V + 3) = 2 ^ (V + 1106) := by rw [← Int.pow_add]; congr 1; omega
  have K0 : (0 : Int) < 2 ^ K := Int.pow_pos (by decide)
  have dist : ∀ Q : Int, at_ (qLo n) (-(V : Int)) ≤ Q → Q ≤ at_ (qHi n) (-(V : Int)) → -(2 ^ (V + 1108 - n)) ≤ at_ k 0 * Q - at_ k 0 * quart V ∧ at_ k 0 * Q - at_ k 0 * quart V ≤ 2 ^ (V + 1108 - n) ∧ -(2 ^ (V + 1106)) ≤ at_ k 0 * Q ∧ at_ k 0 * Q ≤ 2 ^ (V + 1106) := by
    intro Q l1 l2
    have d1 : at_ k 0 * Q - at_ k 0 * quart V = at_ k 0 * (Q - quart V) := by rw [Int.mul_sub]
    have hd : -(2 ^ (V + 5 - n)) ≤ Q - quart V ∧ Q - quart V ≤ 2 ^ (V + 5 - n) := by omega
    have ab : (at_ k 0 * (Q - quart V)).natAbs ≤ ((2 : Int) ^ (V + 1108 - n)).natAbs := by
      rw [Int.natAbs_mul, ← eW, Int.natAbs_mul]
      exact Nat.mul_le_mul (by omega) (by omega)
    have ab2 : (at_ k 0 * Q).natAbs ≤ ((2 : Int) ^ (V + 1106)).natAbs := by
      rw [Int.natAbs_mul, ← eQ, Int.natAbs_mul]
      exact Nat.mul_le_mul (by omega) (by omega)
    have p1 : (0 : Int) < 2 ^ (V + 1108 - n) := Int.pow_pos (by decide)
    have p2 : (0 : Int) < 2 ^ (V + 1106) := Int.pow_pos (by decide)
    rw [d1]
    omega
  have da := dist _ (Int.le_refl _) (by omega)
  have db := dist _ (by omega) (Int.le_refl _)
  rw [← va] at da
  rw [← vb] at db
  have aE := na
  -- what is rounded
  have low : ∃ d : Dyd, (d = mulD k (qLo n) ∨ d = mulD k (qHi n)) ∧ tLo n k = endD d 8192 false ∧ at_ d (-(V : Int)) ≤ at_ k 0 * quart V := by
    have ng := neg_at (d := k) 0
    refine ⟨_, ?_, rfl, ?_⟩
    · cases k.neg with
      | false => rw [sa]; exact .inl rfl
      | true => simp only [Bool.not_true, Bool.false_and, cond_false]; exact min4_cases
    · cases hk : k.neg with
      | false =>
        rw [sa]
        simp only [Bool.not_false, Bool.true_and, cond_true]
        rw [va]
        exact Int.mul_le_mul_of_nonneg_left q1 (ng.1 hk)
      | true =>
        simp only [Bool.not_true, Bool.false_and, cond_false]
        have := (min4_le (a := mulD k (qLo n)) (b := mulD k (qHi n)) (v := -(V : Int)) (by omega) (by omega)).2
        rw [vb] at this
        exact Int.le_trans this (Int.mul_le_mul_of_nonpos_left (ng.2 hk) q2)
  have high : ∃ d : Dyd, (d = mulD k (qLo n) ∨ d = mulD k (qHi n)) ∧ tHi n k = endD d 8192 true ∧ at_ k 0 * quart V ≤ at_ d (-(V : Int)) := by
    have ng := neg_at (d := k) 0
    refine ⟨_, ?_, rfl, ?_⟩
    · cases k.neg with
      | false => rw [sa]; exact .inr rfl
      | true => simp only [Bool.not_true, Bool.false_and, cond_false]; exact max4_cases
    · cases hk : k.neg with
      | false =>
        rw [sa]
        simp only [Bool.not_false, Bool.true_and, cond_true]
        rw [vb]
        exact Int.mul_le_mul_of_nonneg_left q2 (ng.1 hk)
      | true =>
        simp only [Bool.not_true, Bool.false_and, cond_false]
        have := (max4_ge (a := mulD k (qLo n)) (b := mulD k (qHi n)) (v := -(V : Int)) (by omega) (by omega)).1
        rw [va] at this
        exact Int.le_trans (Int.mul_le_mul_of_nonpos_left (ng.2 hk) q1) this
  have p5 : (2 : Int) ^ (V + 1107 - 8192) = 2 ^ (V - 7085) := by rw [show V + 1107 - 8192 = V - 7085 by omega]
  have p6 : (2 : Int) ^ (V + 1107) = 2 ^ (V + 1106) * 2 := Int.pow_succ _ _
  have p7 : (2 : Int) ^ (V + 1108) = 2 ^ (V + 1106) * 4 := by rw [show (4 : Int) = 2 ^ 2 by decide, ← Int.pow_add]
  have p8 : (2 : Int) ^ (V - 7085) ≤ 2 ^ (V + 1106) := two_le (by omega)
  have p9 : (0 : Int) < 2 ^ (V - 7085) := Int.pow_pos (by decide)
  have c6 := pow_cast (V + 1106)
  have c7 := pow_cast (V + 1107)
  have c8 := pow_cast (V + 1108)
  obtain ⟨d, hd, el, ll⟩ := low
  obtain ⟨d', hd', eh, lh⟩ := high
  have fd : Fit d 16386 32986 := by
    rcases hd with e | e
    · rw [e]; exact ma
    · rw [e]; exact mb
  have fd' : Fit d' 16386 32986 := by
    rcases hd' with e | e
    · rw [e]; exact ma
    · rw [e]; exact mb
  have vd : -(2 ^ (V + 1108 - n)) ≤ at_ d (-(V : Int)) - at_ k 0 * quart V ∧ at_ d (-(V : Int)) - at_ k 0 * quart V ≤ 2 ^ (V + 1108 - n) ∧ -(2 ^ (V + 1106)) ≤ at_ d (-(V : Int)) ∧ at_ d (-(V : Int)) ≤ 2 ^ (V + 1106) := by
    rcases hd with e | e
    · rw [e]; exact da
    · rw [e]; exact db
  have vd' : -(2 ^ (V + 1108 - n)) ≤ at_ d' (-(V : Int)) - at_ k 0 * quart V ∧ at_ d' (-(V : Int)) - at_ k 0 * quart V ≤ 2 ^ (V + 1108 - n) ∧ -(2 ^ (V + 1106)) ≤ at_ d' (-(V : Int)) ∧ at_ d' (-(V : Int)) ≤ 2 ^ (V + 1106) := by
    rcases hd' with e | e
    · rw [e]; exact da
    · rw [e]; exact db
  have xd := fd.lo
  have xd' := fd'.lo
  have hl := endD_low fd.may (n := 8192) (by decide) (v := -(V : Int)) (by omega)
  have hl2 := hl.2 (V + 1107) (by omega) (by omega)
  have hh := endD_high fd'.may (n := 8192) (by decide) (v := -(V : Int)) (by omega)
  have hh2 := hh.2 (V + 1107) (by omega) (by omega)
  have hl1 := hl.1
  have hh1 := hh.1
  rw [p5] at hl2 hh2
  have n8 : ((8192 : Nat) : Int) = 8192 := rfl
  rw [n8, ← el] at hl1 hl2
  rw [n8, ← eh] at hh1 hh2
  refine ⟨fit_mid ma (by decide), fit_mid mb (by decide), ?_, ?_, by omega, by omega, by omega, by omega, by omega, by omega⟩
  · rw [el]
    exact (end_fit fd (n := 8192) (by decide) (by decide) false).mono (by decide) (by decide)
  · rw [eh]
    exact (end_fit fd' (n := 8192) (by decide) (by decide) true).mono (by decide) (by decide)
/-- the rest: between, near -/
theorem r_facts {x : Dyd} (hx : angle x) {n V K : Nat} (h1 : 20 ≤ n) (h2 : n ≤ 8092) (hV : 500000 ≤ V) (hK : K = 1103) {k : Dyd} (fk : Fit k 1104 1104) (k0 : 0 ≤ k.exp) (kb : (at_ k 0).natAbs ≤ 2 ^ K) :
    mid (subD x (tHi n k)) ∧ mid (subD x (tLo n k)) ∧ Fit (endD (subD x (tHi n k)) 8192 false) 8193 312412 ∧ Fit (endD (subD x (tLo n k)) 8192 true) 8193 312412 ∧
    at_ (endD (subD x (tHi n k)) 8192 false) (-(V : Int)) ≤ at_ x (-(V : Int)) - at_ k 0 * quart V ∧ at_ x (-(V : Int)) - at_ k 0 * quart V ≤ at_ (endD (subD x (tLo n k)) 8192 true) (-(V : Int)) ∧
    at_ (endD (subD x (tLo n k)) 8192 true) (-(V : Int)) - at_ (endD (subD x (tHi n k)) 8192 false) (-(V : Int)) ≤ 2 ^ (V + 1110 - n) := by
  obtain ⟨x1, x2, x3, x4, x5, x6, -⟩ := angle_facts hx
  have x6 := (x6 V (by omega)).1
  obtain ⟨-, -, fl, fh, t1, t2, t3, t4, t5, t6⟩ := t_facts h1 (by omega) (by omega : 400000 ≤ V) hK fk k0 kb
  have fx : Fit x 8193 57566 := x5.mono (by decide) (by decide)
  have gl := fit_sub fx fl (by decide) (by decide)
  have gh := fit_sub fx fh (by decide) (by decide)
  have e1 := fl.lo
  have e2 := fh.lo
  have e3 := gl.lo
  have e4 := gh.lo
  have v1 : at_ (subD x (tLo n k)) (-(V : Int)) = at_ x (-(V : Int)) - at_ (tLo n k) (-(V : Int)) := sub_at (by omega) (by omega)
  have v2 : at_ (subD x (tHi n k)) (-(V : Int)) = at_ x (-(V : Int)) - at_ (tHi n k) (-(V : Int)) := sub_at (by omega) (by omega)
  have q1 : (2 : Nat) ^ (1100 + V) ≤ 2 ^ (V + 1108) := Nat.pow_le_pow_right (by decide) (by omega)
  have q2 : (2 : Nat) ^ (V + 1109) = 2 ^ (V + 1108) * 2 := Nat.pow_succ ..
  have hh := endD_high gl.may (n := 8192) (by decide) (v := -(V : Int)) (by omega)
  have hl := endD_low gh.may (n := 8192) (by decide) (v := -(V : Int)) (by omega)
  have hh2 := hh.2 (V + 1109) (by omega) (by rw [v1]; omega)
  have hl2 := hl.2 (V + 1109) (by omega) (by rw [v2]; omega)
  have hh1 := hh.1
  have hl1 := hl.1
  have n8 : ((8192 : Nat) : Int) = 8192 := rfl
  rw [n8, v1] at hh1 hh2
  rw [n8, v2] at hl1 hl2
  have w1 : (2 : Int) ^ (V + 1109 - 8192) ≤ 2 ^ (V + 1106 - n) := two_le (by omega)
  have w2 : (2 : Int) ^ (V - 7085) ≤ 2 ^ (V + 1106 - n) := two_le (by omega)
  have w3 : (2 : Int) ^ (V + 1108 - n) = 2 ^ (V + 1106 - n) * 4 := by rw [show V + 1108 - n = (V + 1106 - n) + 2 by omega, Int.pow_add, show (2 : Int) ^ 2 = 4 by decide]
  have w4 : (2 : Int) ^ (V + 1110 - n) = 2 ^ (V + 1106 - n) * 16 := by rw [show V + 1110 - n = (V + 1106 - n) + 4 by omega, Int.pow_add, show (2 : Int) ^ 4 = 16 by decide]
  have w5 : (0 : Int) < 2 ^ (V + 1106 - n) := Int.pow_pos (by decide)
  refine ⟨fit_mid gh (by decide), fit_mid gl (by decide), ?_, ?_, by omega, by omega, by omega⟩
  · exact (end_fit gh (n := 8192) (by decide) (by decide) false).mono (by decide) (by decide)
  · exact (end_fit gl (n := 8192) (by decide) (by decide) true).mono (by decide) (by decide)
/-- without a quarter the rest is the angle -/
theorem r_zero {x : Dyd} (hx : angle x) {n : Nat} (h1 : 20 ≤ n) (h2 : n ≤ 8192) {k : Dyd} (fk : Fit k 1104 1104) (k0 : 0 ≤ k.exp) (kz : at_ k 0 = 0) : endD (subD x (tHi n k)) 8192 false = x ∧ endD (subD x (tLo n k)) 8192 true = x := by
  obtain ⟨x1, x2, x3, x4, x5, -, -⟩ := angle_facts hx
  have hk : k = zeroD := by
    have := formZ_at fk.may k0
    rw [kz, formZ_zero] at this
    exact this.symm
  subst hk
  obtain ⟨⟨fa, sa, na⟩, ⟨fb, sb, nb⟩, -⟩ := q_facts h1 h2 (V := 20000) (Nat.le_refl _)
  have hm : ∀ d, mulD zeroD d = zeroD := fun d => by unfold mulD; rw [show val zeroD.mag = 0 from rfl, Nat.zero_mul, form_zero]
  have hz : ∀ high, endD zeroD 8192 high = zeroD := fun high => endD_self (n := 8192) mayD_zero (by decide) (by show bl 0 ≤ _; rw [bl_zero]; decide) high
  have tl : tLo n zeroD = zeroD := by unfold tLo; rw [hm, hm, sa]; exact hz _
  have th : tHi n zeroD = zeroD := by unfold tHi; rw [hm, hm, sa]; exact hz _
  have hs : subD x zeroD = x := by
    have e0 : -(1280 : Int) ≤ zeroD.exp := by decide
    have hn : negD zeroD = zeroD := rfl
    unfold subD
    rw [hn, addD_at x2 e0, at_zero, Int.add_zero, formZ_at x1 x2]
  rw [tl, th, hs]
  exact ⟨endD_self (n := 8192) x1 (by decide) (by omega) _, endD_self (n := 8192) x1 (by decide) (by omega) _⟩
end Go.Dy

namespace Go.Dy
theorem cutR_at {s : Bool} {m : List Nat} {e b u : Int} (hd : mayD ⟨s, m, e⟩ = true) (hb : 1 ≤ b) (hu : u ≤ e) :
    at_ (cutR ⟨s, m, e⟩ b).1 u = sgn s (val m / 2 ^ ((bl (val m) : Int) - b).toNat * 2 ^ (((bl (val m) : Int) - b).toNat + (e - u).toNat)) := by
  have h := cutR_form s (val m) e b hb
  rw [form_self hd] at h
  rw [h]
  show at_ (form s _ _) u = _
  rw [at_form (by omega)]
  congr 2
  rw [show (e + (((bl (val m) : Int) - b).toNat : Int) - u).toNat = ((bl (val m) : Int) - b).toNat + (e - u).toNat by omega]
theorem self_at {s : Bool} {m : List Nat} {e u : Int} (hd : mayD ⟨s, m, e⟩ = true) (hu : u ≤ e) : at_ ⟨s, m, e⟩ u = sgn s (val m * 2 ^ (e - u).toNat) := by
  have := at_form (s := s) (n := val m) hu
  rwa [form_self hd] at this
/-- of a number X of n bits: the greatest multiple of 2^(n - b) that is not above it -/
def cutN (X : Nat) (b : Nat) : Nat := X / 2 ^ (bl X - b) * 2 ^ (bl X - b)
theorem cutN_shift (X b k : Nat) : cutN (X * 2 ^ k) b = cutN X b * 2 ^ k := by
  unfold cutN
  by_cases h : X = 0
  · subst h; simp
  · rw [bl_mul_two_pow h]
    by_cases c : b ≤ bl X
    · rw [show bl X + k - b = (bl X - b) + k by omega, Nat.pow_add, ← Nat.mul_assoc]
      congr 2
      rw [Nat.mul_comm (2 ^ (bl X - b)), ← Nat.div_div_eq_div_mul, Nat.mul_div_cancel _ (Nat.two_pow_pos k)]
    · rw [show bl X - b = 0 by omega, Nat.pow_zero, Nat.div_one, Nat.mul_one]
      have h1 : (X * 2 ^ k) % 2 ^ (bl X + k - b) = 0 := by
        rw [show k = (bl X + k - b) + (k - (bl X + k - b)) by omega, Nat.pow_add, Nat.mul_left_comm, show (bl X + k - b) + (k - (bl X + k - b)) = k by omega]
        exact Nat.mul_mod_right _ _
      exact Nat.div_mul_cancel (Nat.dvd_of_mod_eq_zero h1)
theorem cutN_le (X b : Nat) : cutN X b ≤ X := Nat.div_mul_le_self _ _
theorem cutN_lt (X b : Nat) : X < cutN X b + 2 ^ (bl X - b) := by
  unfold cutN
  have h1 := Nat.div_add_mod X (2 ^ (bl X - b))
  have h2 := Nat.mod_lt X (Nat.two_pow_pos (bl X - b))
  rw [Nat.mul_comm] at h1
  omega
theorem bl_cutN (X : Nat) {b : Nat} (hb : 1 ≤ b) : bl (cutN X b) = bl X := by
  by_cases h : X = 0
  · subst h; simp [cutN, bl_zero]
  · unfold cutN
    have hq : X / 2 ^ (bl X - b) ≠ 0 := fun e => by
      have h1 := bl_div_two_pow X (bl X - b)
      have h2 := bl_pos.2 h
      rw [e, bl_zero] at h1
      omega
    rw [bl_mul_two_pow hq, bl_div_two_pow]
    omega
/-- both ends cut alike: all between are -/
theorem cutN_between {X Y Z b : Nat} (hb : 1 ≤ b) (h1 : X ≤ Y) (h2 : Y ≤ Z) (h : cutN X b = cutN Z b) : cutN Y b = cutN X b := by
  have e : bl X = bl Z := by rw [← bl_cutN X hb, ← bl_cutN Z hb, h]
  have hy : bl Y = bl X := by
    have := bl_mono h1
    have := bl_mono h2
    omega
  have a1 := Nat.div_le_div_right (c := 2 ^ (bl X - b)) h1
  have a2 := Nat.div_le_div_right (c := 2 ^ (bl X - b)) h2
  unfold cutN at h ⊢
  rw [← e] at h
  rw [hy]
  have h3 := Nat.eq_of_mul_eq_mul_right (Nat.two_pow_pos _) h
  have : Y / 2 ^ (bl X - b) = X / 2 ^ (bl X - b) := by omega
  rw [this]
/-- where no multiple of the unit lies between, both ends are cut alike -/
theorem cutN_same {X Z b : Nat} (h1 : X ≤ Z) (hl : bl X = bl Z) (h : ∀ D, ¬ (X < D * 2 ^ (bl Z - b) ∧ D * 2 ^ (bl Z - b) ≤ Z)) : cutN X b = cutN Z b := by
  unfold cutN
  rw [hl]
  have a := Nat.div_le_div_right (c := 2 ^ (bl Z - b)) h1
  have b1 := Nat.div_mul_le_self Z (2 ^ (bl Z - b))
  rcases Nat.lt_or_ge X (Z / 2 ^ (bl Z - b) * 2 ^ (bl Z - b)) with c | c
  · exact absurd ⟨c, b1⟩ (h _)
  · have : Z / 2 ^ (bl Z - b) ≤ X / 2 ^ (bl Z - b) := (Nat.le_div_iff_mul_le (Nat.two_pow_pos _)).2 c
    have : X / 2 ^ (bl Z - b) = Z / 2 ^ (bl Z - b) := by omega
    rw [this]
/-- the value of a cut number is the cut of its value -/
theorem cutR_cutN {s : Bool} {m : List Nat} {e u : Int} {b : Nat} (hd : mayD ⟨s, m, e⟩ = true) (hb : 1 ≤ b) (hu : u ≤ e) :
    at_ (cutR ⟨s, m, e⟩ b).1 u = sgn s (cutN (val m * 2 ^ (e - u).toNat) b) := by
  rw [cutR_at hd (by omega) hu, cutN_shift]
  unfold cutN
  rw [show ((bl (val m) : Int) - (b : Int)).toNat = bl (val m) - b by omega, Nat.pow_add, Nat.mul_assoc]
end Go.Dy

namespace Go.Dy
/-- nearest, as inequalities -/
def Near (X P k : Int) : Prop := 2 * (k * P) ≤ 2 * X + P ∧ 2 * X + P < 2 * (k * P) + 2 * P
theorem nearZ_near {X P : Int} (hP : 0 < P) : Near X P (nearZ X P) := by
  have h1 := Int.mul_ediv_add_emod (2 * X + P) (2 * P)
  have h2 := Int.emod_nonneg (2 * X + P) (show 2 * P ≠ 0 by omega)
  have h3 := Int.emod_lt_of_pos (2 * X + P) (show 0 < 2 * P by omega)
  have e : nearZ X P = (2 * X + P) / (2 * P) := rfl
  rw [← e] at h1
  have e2 : 2 * P * nearZ X P = 2 * (nearZ X P * P) := by rw [Int.mul_assoc, Int.mul_comm P]
  rw [e2] at h1
  unfold Near
  omega
theorem Near.eq {X P k : Int} (hP : 0 < P) (h : Near X P k) : nearZ X P = k := nearZ_eq hP h.1 h.2
theorem size_at {x : Dyd} (hb : bl (val x.mag) ≤ 1280) {V : Nat} {T : Nat} (hT : 1280 + x.exp + V ≤ T) (hV : -(V : Int) ≤ x.exp) : (at_ x (-(V : Int))).natAbs < 2 ^ T := by
  obtain ⟨s, m, e⟩ := x
  simp only at hb hT hV
  rw [at_mk, natAbs_sgn]
  refine bl_le.1 (Nat.le_trans (bl_mul_le (Nat.le_refl _)) ?_)
  omega
theorem at_up {x : Dyd} {g V : Nat} (h1 : -(g : Int) ≤ x.exp) (h2 : g ≤ V) : at_ x (-(V : Int)) = at_ x (-(g : Int)) * 2 ^ (V - g) := by
  have := at_scale x (u := -(g : Int)) (v := -(V : Int)) (by omega) h1
  rw [this]
  congr 2
  omega
/-- how many quarters there can be -/
theorem near_small {X P k : Int} {V kb : Nat} (hP : 3 * 2 ^ V < 2 * P) (hX : X.natAbs < 2 ^ (kb + V)) (h : 2 * k.natAbs * P ≤ 2 * X.natAbs + P) : k.natAbs ≤ 2 ^ (kb + 1) := by
  refine Decidable.byContradiction fun c => ?_
  have D0 : (0 : Int) < 2 ^ V := Int.pow_pos (by decide)
  have c1 : ((2 ^ (kb + 1) : Nat) : Int) * P < k.natAbs * P := Int.mul_lt_mul_of_pos_right (by omega) (by omega)
  rw [pow_cast] at c1
  have c2 : (2 : Int) ^ (kb + 1) * (3 * 2 ^ V) < 2 ^ (kb + 1) * (2 * P) := Int.mul_lt_mul_of_pos_left hP (Int.pow_pos (by decide))
  have hx : (X.natAbs : Int) < 2 ^ (kb + V) := by
    have := pow_cast (kb + V)
    omega
  have e1 : (2 : Int) ^ (kb + V) = 2 ^ kb * 2 ^ V := Int.pow_add ..
  have e2 : (2 : Int) ^ (kb + 1) = 2 ^ kb * 2 := Int.pow_succ ..
  have k0 : (1 : Int) ≤ 2 ^ kb := by
    have : (0 : Int) < 2 ^ kb := Int.pow_pos (by decide)
    omega
  have kV : 1 * 2 ^ V ≤ (2 : Int) ^ kb * 2 ^ V := Int.mul_le_mul_of_nonneg_right k0 (Int.le_of_lt D0)
  have c3 : (2 : Int) ^ kb * P ≥ 1 * P := Int.mul_le_mul_of_nonneg_right k0 (by omega)
  rw [e2] at c1 c2
  rw [Int.mul_assoc, Int.mul_left_comm (2 : Int) 3 (2 ^ V), Int.mul_left_comm _ 3, Int.mul_left_comm _ (2 : Int) (2 ^ V)] at c2
  have e3 : (2 : Int) ^ kb * 2 * (2 * P) = 4 * (2 ^ kb * P) := by rw [Int.mul_assoc, show (2 : Int) * (2 * P) = 4 * P by omega, Int.mul_left_comm]
  have e4 : (2 : Int) ^ kb * 2 * P = 2 * (2 ^ kb * P) := by rw [Int.mul_assoc, Int.mul_left_comm]
  rw [e3] at c2
  rw [e4] at c1
  rw [Int.mul_assoc] at h
  generalize (2 : Int) ^ kb * P = z at *
  generalize (2 : Int) ^ kb * 2 ^ V = y at *
  generalize (k.natAbs : Int) * P = u at *
  omega
theorem near_small2 {X P k : Int} {V kb : Nat} (hP : 3 * 2 ^ V < 2 * P) (hX : X.natAbs < 2 ^ (kb + V)) (h : (k.natAbs : Int) * P ≤ 2 * X.natAbs + 2 ^ V) : k.natAbs ≤ 2 ^ (kb + 1) := by
  refine Decidable.byContradiction fun c => ?_
  have D0 : (0 : Int) < 2 ^ V := Int.pow_pos (by decide)
  have c1 : ((2 ^ (kb + 1) : Nat) : Int) * P < k.natAbs * P := Int.mul_lt_mul_of_pos_right (by omega) (by omega)
  rw [pow_cast] at c1
  have k0 : (0 : Int) < 2 ^ kb := Int.pow_pos (by decide)
  have c2 : (2 : Int) ^ kb * (3 * 2 ^ V) < 2 ^ kb * (2 * P) := Int.mul_lt_mul_of_pos_left hP k0
  have hx : (X.natAbs : Int) < 2 ^ (kb + V) := by
    have := pow_cast (kb + V)
    omega
  have e1 : (2 : Int) ^ (kb + V) = 2 ^ kb * 2 ^ V := Int.pow_add ..
  have e2 : (2 : Int) ^ (kb + 1) = 2 ^ kb * 2 := Int.pow_succ ..
  have kV : 1 * 2 ^ V ≤ (2 : Int) ^ kb * 2 ^ V := Int.mul_le_mul_of_nonneg_right (by omega) (Int.le_of_lt D0)
  rw [e2, Int.mul_assoc] at c1
  rw [Int.mul_left_comm _ 3, Int.mul_left_comm _ (2 : Int) P] at c2
  rw [Int.mul_left_comm _ (2 : Int) P] at c1
  generalize (2 : Int) ^ kb * P = z at *
  generalize (2 : Int) ^ kb * 2 ^ V = y at *
  generalize (k.natAbs : Int) * P = u at *
  omega
theorem near_abs {X P k : Int} (hP : 0 < P) (h : Near X P k) : 2 * (k.natAbs : Int) * P ≤ 2 * X.natAbs + P := by
  unfold Near at h
  rw [Int.mul_assoc]
  rcases Int.natAbs_eq k with e | e
  · rw [← e]
    omega
  · have : (k.natAbs : Int) = -k := by omega
    rw [this, Int.neg_mul]
    omega
theorem wit_use {w : Wit} (hw : w.ok = true) {x : Dyd} {V : Nat} (hV : 20000 ≤ V) (hg : w.g ≤ 3000) (hs : w.g + w.kb + w.c + 1 ≤ 1400) {kb : Nat} (hk1 : w.kb = kb + 1) (hx : -(w.g : Int) ≤ x.exp) (hb : (at_ x (-(V : Int))).natAbs < 2 ^ (kb + V)) {k : Int} (hk0 : k ≠ 0) (hn : Near (at_ x (-(V : Int))) (quart V) k) :
    2 ^ (V - 1400) ≤ (at_ x (-(V : Int)) - k * quart V).natAbs := by
  have hp : prec + 1 + w.g ≤ V := by unfold prec; omega
  have hq := quart_lo (V := V) (by unfold prec; omega)
  have D0 : (0 : Int) < 2 ^ V := Int.pow_pos (by decide)
  have hk := near_small hq hb (near_abs (by omega) hn)
  rw [← hk1] at hk
  have := wit_far hw hp hk0 hk (by omega) (at_ x (-(w.g : Int)))
  rw [← at_up hx (by omega)] at this
  exact Nat.le_trans (Nat.pow_le_pow_right (by decide) (by omega)) this
/-- the rest is not small -/
theorem rest_big {x : Dyd} (hx : angle x) {V : Nat} (hV : 20000 ≤ V) {k : Int} (hk0 : k ≠ 0) (hn : Near (at_ x (-(V : Int))) (quart V) k) : 2 ^ (V - 1400) ≤ (at_ x (-(V : Int)) - k * quart V).natAbs := by
  obtain ⟨x1, x2, x3, x4, x5, x6, -⟩ := angle_facts hx
  have x6 := (x6 V (by omega)).1
  have sz : ∀ T : Nat, 1280 + x.exp ≤ T → (at_ x (-(V : Int))).natAbs < 2 ^ (T + V) := fun T hT => size_at x4 (by omega) (by omega)
  by_cases c0 : -180 ≤ x.exp
  · exact wit_use wit0_ok hV (by decide) (by decide) rfl c0 x6 hk0 hn
  by_cases c1 : -280 ≤ x.exp
  · exact wit_use wit1_ok hV (by decide) (by decide) rfl c1 (sz 1100 (by omega)) hk0 hn
  by_cases c2 : -380 ≤ x.exp
  · exact wit_use wit2_ok hV (by decide) (by decide) rfl c2 (sz 1000 (by omega)) hk0 hn
  by_cases c3 : -480 ≤ x.exp
  · exact wit_use wit3_ok hV (by decide) (by decide) rfl c3 (sz 900 (by omega)) hk0 hn
  by_cases c4 : -580 ≤ x.exp
  · exact wit_use wit4_ok hV (by decide) (by decide) rfl c4 (sz 800 (by omega)) hk0 hn
  by_cases c5 : -680 ≤ x.exp
  · exact wit_use wit5_ok hV (by decide) (by decide) rfl c5 (sz 700 (by omega)) hk0 hn
  by_cases c6 : -780 ≤ x.exp
  · exact wit_use wit6_ok hV (by decide) (by decide) rfl c6 (sz 600 (by omega)) hk0 hn
  by_cases c7 : -880 ≤ x.exp
  · exact wit_use wit7_ok hV (by decide) (by decide) rfl c7 (sz 500 (by omega)) hk0 hn
  by_cases c8 : -980 ≤ x.exp
  · exact wit_use wit8_ok hV (by decide) (by decide) rfl c8 (sz 400 (by omega)) hk0 hn
  by_cases c9 : -1080 ≤ x.exp
  · exact wit_use wit9_ok hV (by decide) (by decide) rfl c9 (sz 300 (by omega)) hk0 hn
  by_cases c10 : -1180 ≤ x.exp
  · exact wit_use wit10_ok hV (by decide) (by decide) rfl c10 (sz 200 (by omega)) hk0 hn
  · exact wit_use wit11_ok hV (by decide) (by decide) rfl x2 (sz 100 (by omega)) hk0 hn
theorem far_use {w : Wit} (hw : w.ok = true) {x : Dyd} {V : Nat} (hp : prec + 1 + w.g ≤ V) (hs : w.g + w.kb + w.c + 1 ≤ V) (hg : w.g ≤ V) (hx : -(w.g : Int) ≤ x.exp) {k : Int} (hk0 : k ≠ 0) (hk : k.natAbs ≤ 2 ^ w.kb) (B : Int) : 2 ^ (V - (w.g + w.kb + w.c + 1)) ≤ (at_ x (-(V : Int)) - k * quart V - B * 2 ^ (V - w.g)).natAbs := by
  have := wit_far hw hp hk0 hk hs (at_ x (-(w.g : Int)) - B)
  have hu := at_up hx hg
  rw [hu]
  have e : (at_ x (-(w.g : Int)) * 2 ^ (V - w.g) - k * quart V - B * 2 ^ (V - w.g)) = (at_ x (-(w.g : Int)) - B) * 2 ^ (V - w.g) - k * quart V := by
    rw [Int.sub_mul]
    omega
  rw [e]
  exact this
theorem half_use {w : Wit} (hw : w.ok = true) {x : Dyd} {V : Nat} (hp : prec + 1 + w.g ≤ V) (hs : w.g + w.kb + w.c + 1 ≤ V) (hg : w.g ≤ V) (hx : -(w.g : Int) ≤ x.exp) {k : Int} (hk0 : k ≠ 0) (hk : k.natAbs ≤ 2 ^ w.kb) : 2 ^ (V - (w.g + w.kb + w.c + 1)) ≤ (2 * at_ x (-(V : Int)) - k * quart V).natAbs := by
  have := wit_far hw hp hk0 hk hs (2 * at_ x (-(w.g : Int)))
  have hu := at_up hx hg
  rw [hu, ← Int.mul_assoc]
  exact this
theorem w12 : wit12.g = 2905 ∧ wit12.kb = 1100 + 1 ∧ wit12.g + wit12.kb + wit12.c + 1 = 4009 := ⟨rfl, rfl, rfl⟩
/-- and far from all numbers over 2^2905 -/
theorem rest_far {x : Dyd} (hx : angle x) {V : Nat} (hV : 20000 ≤ V) {k : Int} (hk0 : k ≠ 0) (hn : Near (at_ x (-(V : Int))) (quart V) k) (B : Int) : 2 ^ (V - 4009) ≤ (at_ x (-(V : Int)) - k * quart V - B * 2 ^ (V - 2905)).natAbs := by
  obtain ⟨x1, x2, x3, x4, x5, x6, -⟩ := angle_facts hx
  have x6 := (x6 V (by omega)).1
  obtain ⟨a1, a2, a3⟩ := w12
  obtain ⟨kb, hkb⟩ : ∃ kb : Nat, kb = 1100 := ⟨_, rfl⟩
  rw [← hkb] at x6 a2
  have hp : prec + 1 + wit12.g ≤ V := by rw [a1]; unfold prec; omega
  have hq := quart_lo (V := V) (by unfold prec; omega)
  have D0 : (0 : Int) < 2 ^ V := Int.pow_pos (by decide)
  have hk : k.natAbs ≤ 2 ^ wit12.kb := by
    rw [a2]
    exact near_small hq x6 (near_abs (by omega) hn)
  have := far_use wit12_ok hp (by omega) (by omega) (x := x) (by omega) hk0 hk B
  rw [a3, a1] at this
  exact this
/-- no half lies near -/
theorem half_far {x : Dyd} (hx : angle x) {V : Nat} (hV : 20000 ≤ V) {j : Int} (hj : j ≠ 0) (hb : (j.natAbs : Int) * quart V ≤ 2 * (at_ x (-(V : Int))).natAbs + 2 ^ V) : 2 ^ (V - 4009) ≤ (2 * at_ x (-(V : Int)) - j * quart V).natAbs := by
  obtain ⟨x1, x2, x3, x4, x5, x6, -⟩ := angle_facts hx
  have x6 := (x6 V (by omega)).1
  obtain ⟨a1, a2, a3⟩ := w12
  obtain ⟨kb, hkb⟩ : ∃ kb : Nat, kb = 1100 := ⟨_, rfl⟩
  rw [← hkb] at x6 a2
  have hp : prec + 1 + wit12.g ≤ V := by rw [a1]; unfold prec; omega
  have hq := quart_lo (V := V) (by unfold prec; omega)
  have hk : j.natAbs ≤ 2 ^ wit12.kb := by
    rw [a2]
    exact near_small2 hq x6 hb
  have := half_use wit12_ok hp (by omega) (by omega) (x := x) (by omega) hj hk
  rw [a3] at this
  exact this
/-! the cut -/
def cutV (z : Int) (b : Nat) : Int := sgn (decide (z < 0)) (cutN z.natAbs b)
theorem cutV_neg (z : Int) (b : Nat) : cutV (-z) b = -cutV z b := by
  unfold cutV
  rw [Int.natAbs_neg]
  by_cases c : z = 0
  · subst c
    have : cutN (0 : Int).natAbs b = 0 := by unfold cutN; simp
    rw [this]
    rfl
  · unfold sgn
    rcases Int.lt_or_gt_of_ne c with h | h
    · rw [decide_eq_true h, decide_eq_false (by omega)]
      simp
    · rw [decide_eq_false (by omega : ¬ z < 0), decide_eq_true (by omega)]
      simp
theorem cutR_at2 {d : Dyd} {u : Int} {b : Nat} (hd : mayD d = true) (hb : 1 ≤ b) (hu : u ≤ d.exp) : at_ (cutR d b).1 u = cutV (at_ d u) b := by
  obtain ⟨s, m, e⟩ := d
  rw [cutR_cutN hd hb hu, at_mk]
  unfold cutV
  rw [natAbs_sgn]
  by_cases c : val m * 2 ^ (e - u).toNat = 0
  · rw [c]
    have : cutN 0 b = 0 := by unfold cutN; simp
    rw [this, sgn_zero, sgn_zero]
  · congr 1
    unfold sgn
    cases s
    · simp only [Bool.false_eq_true, if_false]
      exact (decide_eq_false (by omega)).symm
    · simp only [if_true]
      exact (decide_eq_true (by omega)).symm
/-- where no number of few bits lies between, both are cut alike -/
theorem cut_pos {lo hi : Nat} {b G B : Nat} (h1 : lo ≤ hi) (hB : 2 ^ B ≤ hi) (hG : G + b ≤ B + 1) (hb : 1 ≤ b) (hno : ∀ Z : Nat, ¬ (lo < Z * 2 ^ G ∧ Z * 2 ^ G ≤ hi)) : cutN lo b = cutN hi b := by
  have hbh := lt_bl.2 hB
  have e : bl lo = bl hi := by
    refine Nat.le_antisymm (bl_mono h1) (Decidable.byContradiction fun c => ?_)
    have hne : hi ≠ 0 := by
      intro e
      subst e
      have := Nat.two_pow_pos B
      omega
    have k1 := two_bl_le hne
    have k2 : lo < 2 ^ (bl hi - 1) := bl_le.1 (by omega)
    refine hno (2 ^ (bl hi - 1 - G)) ?_
    rw [← Nat.pow_add, show bl hi - 1 - G + G = bl hi - 1 by omega]
    exact ⟨k2, k1⟩
  refine cutN_same h1 e fun D hD => ?_
  refine hno (D * 2 ^ (bl hi - b - G)) ?_
  rw [Nat.mul_assoc, ← Nat.pow_add, show bl hi - b - G + G = bl hi - b by omega]
  exact hD
/-- the ends about a number that is not small, and far from numbers of few bits, are cut as it is -/
theorem cut_near {lo R hi : Int} {b G B W F : Nat} (h1 : lo ≤ R) (h2 : R ≤ hi) (hw : hi - lo ≤ 2 ^ W) (hW : W < F) (hWB : W < B) (hR : 2 ^ B ≤ R.natAbs) (hG : G + b ≤ B) (hb : 1 ≤ b) (hfar : ∀ Z : Int, 2 ^ F ≤ (R - Z * 2 ^ G).natAbs) :
    cutV lo b = cutV R b ∧ cutV hi b = cutV R b ∧ (0 < R → 0 < lo) ∧ (R < 0 → hi < 0) := by
  have cW := pow_cast W
  have cF := pow_cast F
  have cB := pow_cast B
  have cG := pow_cast G
  have lWF : (2 : Nat) ^ W < 2 ^ F := Nat.pow_lt_pow_right (by decide) hW
  have lWB : (2 : Nat) ^ (W + 1) ≤ 2 ^ B := Nat.pow_le_pow_right (by decide) hWB
  have eW1 : (2 : Nat) ^ (W + 1) = 2 ^ W * 2 := Nat.pow_succ ..
  have hB1 : (2 : Nat) ^ B = 2 ^ (B - 1) * 2 := by rw [← Nat.pow_succ]; congr 1; omega
  have key : ∀ lo R hi : Int, lo ≤ R → R ≤ hi → hi - lo ≤ 2 ^ W → 2 ^ B ≤ R.natAbs → (∀ Z : Int, 2 ^ F ≤ (R - Z * 2 ^ G).natAbs) → 0 < R → 0 < lo ∧ cutV lo b = cutV R b ∧ cutV hi b = cutV R b := by
    intro lo R hi h1 h2 hw hR hfar h0
    have hlo : 0 < lo := by omega
    have no : ∀ a c : Nat, lo ≤ (a : Int) → (c : Int) ≤ hi → ∀ Z : Nat, ¬ (a < Z * 2 ^ G ∧ Z * 2 ^ G ≤ c) := by
      intro a c ha hc Z hZ
      have := hfar (Z : Int)
      have e : ((Z * 2 ^ G : Nat) : Int) = (Z : Int) * 2 ^ G := by rw [Int.natCast_mul, cG]
      rw [← e] at this
      omega
    have c1 := cut_pos (lo := lo.natAbs) (hi := R.natAbs) (b := b) (G := G) (B := B - 1) (by omega) (by omega) (by omega) hb (no _ _ (by omega) (by omega))
    have c2 := cut_pos (lo := R.natAbs) (hi := hi.natAbs) (b := b) (G := G) (B := B - 1) (by omega) (by omega) (by omega) hb (no _ _ (by omega) (by omega))
    refine ⟨hlo, ?_, ?_⟩
    · unfold cutV
      rw [decide_eq_false (by omega : ¬ lo < 0), decide_eq_false (by omega : ¬ R < 0), c1]
    · unfold cutV
      rw [decide_eq_false (by omega : ¬ hi < 0), decide_eq_false (by omega : ¬ R < 0), c2]
  have Bp : 0 < (2 : Nat) ^ B := Nat.two_pow_pos B
  rcases Int.lt_or_gt_of_ne (show R ≠ 0 by intro e; subst e; simp at hR) with h0 | h0
  · have hfar' : ∀ Z : Int, 2 ^ F ≤ (-R - Z * 2 ^ G).natAbs := fun Z => by
      have := hfar (-Z)
      rw [Int.neg_mul] at this
      omega
    obtain ⟨k1, k2, k3⟩ := key (-hi) (-R) (-lo) (by omega) (by omega) (by omega) (by omega) hfar' (by omega)
    rw [cutV_neg, cutV_neg] at k2 k3
    exact ⟨by omega, by omega, fun h => by omega, fun _ => by omega⟩
  · obtain ⟨k1, k2, k3⟩ := key lo R hi h1 h2 hw hR hfar h0
    exact ⟨k2, k3, fun _ => k1, fun h => by omega⟩
end Go.Dy

namespace Go.AI
open Go Go.RowKit Go.Proofs
set_option linter.unusedVariables false
set_option maxRecDepth 100000
set_option maxHeartbeats 0
theorem vc_span_Pi (n : Int) (Q : AV →
  Prop) : (evF Tryd.prog (look tabR3) (lam []) false Tryd.f31 [AV.num IntKind.i64 n] Q) =
  (((20 : Int) ≤ IntKind.i64.wrap (n + (20 : Int)) ∧
  IntKind.i64.wrap (n + (20 : Int)) ≤ (20000 : Int) ∧ ((5 : Int) = (5 : Int) ∨ (5 : Int) = (239 : Int))) ∧
  ∀ (l1 : List Nat),
  l1 = Dy.dg (Dy.arcV (IntKind.i64.wrap (n + (20 : Int))).toNat (5 : Nat)) →
  ∀ (n2 : Int),
  n2 = (↑((2 : Nat) * Dy.arcT (IntKind.i64.wrap (n + (20 : Int))).toNat (5 : Nat) + (2 : Nat)) : Int) →
  ((20 : Int) ≤ IntKind.i64.wrap (n + (20 : Int)) ∧
  IntKind.i64.wrap (n + (20 : Int)) ≤ (20000 : Int) ∧
  ((239 : Int) = (5 : Int) ∨ (239 : Int) = (239 : Int))) ∧
  ∀ (l3 : List Nat),
  l3 = Dy.dg (Dy.arcV (IntKind.i64.wrap (n + (20 : Int))).toNat (239 : Nat)) →
  ∀ (n4 : Int),
  n4 =
  (↑((2 : Nat) * Dy.arcT (IntKind.i64.wrap (n + (20 : Int))).toNat (239 : Nat) + (2 : Nat)) : Int) →
  dyF (Dy.makeD false l1 (IntKind.i64.wrap ((4 : Int) - IntKind.i64.wrap (n + (20 : Int))))).1
  fun b5 l6 n7 =>
  ∀ (n8 : Int),
  n8 =
  (Dy.makeD false l1 (IntKind.i64.wrap ((4 : Int) - IntKind.i64.wrap (n + (20 : Int))))).snd →
  dyF (Dy.makeD false l3 (IntKind.i64.wrap ((2 : Int) - IntKind.i64.wrap (n + (20 : Int))))).1
  fun b9 l10 n11 =>
  ∀ (n12 : Int),
  n12 =
  (Dy.makeD false l3
  (IntKind.i64.wrap ((2 : Int) - IntKind.i64.wrap (n + (20 : Int))))).snd →
  dyF
  (Dy.makeD false
  (Dy.dg
  (IntKind.u64.wrap
  (IntKind.u64.wrap ((16 : Int) * n2) +
  IntKind.u64.wrap ((4 : Int) * n4))).toNat)
  (IntKind.i64.wrap ((0 : Int) - IntKind.i64.wrap (n + (20 : Int))))).1
  fun b13 l14 n15 =>
  ∀ (n16 : Int),
  n16 =
  (Dy.makeD false
  (Dy.dg
  (IntKind.u64.wrap
  (IntKind.u64.wrap ((16 : Int) * n2) +
  IntKind.u64.wrap ((4 : Int) * n4))).toNat)
  (IntKind.i64.wrap ((0 : Int) - IntKind.i64.wrap (n + (20 : Int))))).snd →
  (Dy.mayD (Dy.Dyd.mk b5 l6 n7) = true ∧
  Dy.mayD (Dy.Dyd.mk b9 l10 n11) = true ∧
  Dy.mayD (Dy.subD (Dy.Dyd.mk b5 l6 n7) (Dy.Dyd.mk b9 l10 n11)) = true) ∧
  dyF (Dy.subD (Dy.Dyd.mk b5 l6 n7) (Dy.Dyd.mk b9 l10 n11)) fun b17 l18 n19 =>
  (Dy.mayD (Dy.Dyd.mk b17 l18 n19) = true ∧
  Dy.mayD (Dy.Dyd.mk b13 l14 n15) = true ∧
  Dy.mayD (Dy.subD (Dy.Dyd.mk b17 l18 n19) (Dy.Dyd.mk b13 l14 n15)) =
  true) ∧
  dyF (Dy.subD (Dy.Dyd.mk b17 l18 n19) (Dy.Dyd.mk b13 l14 n15))
  fun b20 l21 n22 =>
  (Dy.mayD (Dy.Dyd.mk b17 l18 n19) = true ∧
  Dy.mayD (Dy.Dyd.mk b13 l14 n15) = true ∧
  Dy.mayD (Dy.addD (Dy.Dyd.mk b17 l18 n19) (Dy.Dyd.mk b13 l14 n15)) =
  true) ∧
  dyF (Dy.addD (Dy.Dyd.mk b17 l18 n19) (Dy.Dyd.mk b13 l14 n15))
  fun b23 l24 n25 =>
  (Dy.mid (Dy.Dyd.mk b20 l21 n22) ∧
  Dy.mid (Dy.Dyd.mk b23 l24 n25) ∧
  (1 : Int) ≤ n ∧ n ≤ (8192 : Int)) ∧
  dyF (Dy.endD (Dy.Dyd.mk b20 l21 n22) n false) fun b26 l27 n28 =>
  dyF (Dy.endD (Dy.Dyd.mk b23 l24 n25) n true) fun b29 l30 n31 =>
  Q
  (AV.agg
  [AV.bool b26, AV.dig [(0 : Nat)] l27,
  AV.num IntKind.i64 n28, AV.bool b29,
  AV.dig [(0 : Nat)] l30,
  AV.num IntKind.i64 n31])) := by kernel_rfl
theorem vc_span_Quarters (n : Int) (s : Bool) (m : List
  Nat) (e : Int) (Q : AV →
  Prop) : (evF Tryd.prog (look tabR4) (lam []) false Tryd.f17
  [AV.num IntKind.i64 n, AV.agg [AV.bool s, AV.dig [(2 : Nat)] m, AV.num IntKind.i64 e]] Q) =
  (bif decide ((if Dy.mayD (Dy.Dyd.mk s m e) = true then Dy.topD (Dy.Dyd.mk s m e) else (0 : Int)) < (0 : Int)) then
  dyF (Dy.Dyd.mk s m e) fun b1 l2 n3 => dyF (Dy.Dyd.mk s m e) fun b4 l5 n6 => False
 else
  ((1 : Int) ≤ n ∧ n ≤ (8192 : Int)) ∧
  dyF (Dy.piLo n) fun b7 l8 n9 =>
  dyF (Dy.piHi n) fun b10 l11 n12 =>
  (Dy.mid (Dy.Dyd.mk b7 l8 n9) ∧
  Dy.mid (Dy.Dyd.mk b10 l11 n12) ∧ (-1000000 : Int) ≤ (-1 : Int) ∧ (-1 : Int) ≤ (1000000 : Int)) ∧
  dyF (Dy.shD (Dy.Dyd.mk b7 l8 n9) (-1 : Int)) fun b13 l14 n15 =>
  dyF (Dy.shD (Dy.Dyd.mk b10 l11 n12) (-1 : Int)) fun b16 l17 n18 =>
  dyF (Dy.Dyd.mk s m e) fun b19 l20 n21 =>
  dyF (Dy.Dyd.mk s m e) fun b22 l23 n24 =>
  (Dy.mid (Dy.Dyd.mk b19 l20 n21) ∧
  Dy.mid (Dy.Dyd.mk b22 l23 n24) ∧
  Dy.mid (Dy.Dyd.mk b13 l14 n15) ∧
  Dy.mid (Dy.Dyd.mk b16 l17 n18) ∧
  b13 = false ∧
  b16 = false ∧
  l14 ≠ [] ∧
  l17 ≠ [] ∧
  l20.length ≤ (1000 : Nat) ∧
  l23.length ≤ (1000 : Nat) ∧
  l14.length ≤ (1000 : Nat) ∧
  l17.length ≤ (1000 : Nat) ∧ (1 : Int) ≤ n ∧ n ≤ (8192 : Int)) ∧
  dyF
  (Dy.quoE (Dy.Dyd.mk b19 l20 n21) (bif b19 then Dy.Dyd.mk b13 l14 n15 else Dy.Dyd.mk b16 l17 n18) n
  false)
  fun b25 l26 n27 =>
  dyF
  (Dy.quoE (Dy.Dyd.mk b22 l23 n24) (bif b22 then Dy.Dyd.mk b16 l17 n18 else Dy.Dyd.mk b13 l14 n15)
  n true)
  fun b28 l29 n30 =>
  (Dy.mayD (Dy.Dyd.mk b25 l26 n27) = true ∧
  Dy.mayD (Dy.Dyd.mk b28 l29 n30) = true ∧
  Dy.mayD (Dy.addD (Dy.Dyd.mk b25 l26 n27) (Dy.unitOf (-1 : Int))) = true ∧
  Dy.mayD (Dy.addD (Dy.Dyd.mk b28 l29 n30) (Dy.unitOf (-1 : Int))) = true ∧
  Dy.mayD (Dy.floorD (Dy.addD (Dy.Dyd.mk b25 l26 n27) (Dy.unitOf (-1 : Int)))) = true ∧
  Dy.mayD (Dy.floorD (Dy.addD (Dy.Dyd.mk b28 l29 n30) (Dy.unitOf (-1 : Int)))) =
  true) ∧
  dyF (Dy.floorD (Dy.addD (Dy.Dyd.mk b25 l26 n27) (Dy.unitOf (-1 : Int)))) fun b31 l32 n33 =>
  ∀ (b34 : Bool),
  b34 =
  decide
  (Dy.cmpD (Dy.floorD (Dy.addD (Dy.Dyd.mk b25 l26 n27) (Dy.unitOf (-1 : Int))))
  (Dy.floorD (Dy.addD (Dy.Dyd.mk b28 l29 n30) (Dy.unitOf (-1 : Int)))) =
  (0 : Int)) →
  bif !b34 then
  Q
  (AV.tup
  [AV.num IntKind.i64 (0 : Int),
  AV.agg
  [AV.bool false, AV.dig [(0 : Nat)] [], AV.num IntKind.i64 (0 : Int),
  AV.bool false, AV.dig [(0 : Nat)] [], AV.num IntKind.i64 (0 : Int)],
  AV.bool false])
  else
  (Dy.mayD (Dy.Dyd.mk b31 l32 n33) = true ∧ (0 : Int) ≤ n33) ∧
  dyF (Dy.Dyd.mk s m e) fun b35 l36 n37 =>
  dyF (Dy.Dyd.mk s m e) fun b38 l39 n40 =>
  dyF (Dy.Dyd.mk b31 l32 n33) fun b41 l42 n43 =>
  dyF (Dy.Dyd.mk b31 l32 n33) fun b44 l45 n46 =>
  (Dy.mayD (Dy.Dyd.mk b41 l42 n43) = true ∧
  Dy.mayD (Dy.Dyd.mk b44 l45 n46) = true ∧
  Dy.mayD (Dy.Dyd.mk b13 l14 n15) = true ∧
  Dy.mayD (Dy.Dyd.mk b16 l17 n18) = true ∧
  Dy.mid (Dy.mulD (Dy.Dyd.mk b41 l42 n43) (Dy.Dyd.mk b13 l14 n15)) ∧
  Dy.mid
  (Dy.mulD (Dy.Dyd.mk b41 l42 n43) (Dy.Dyd.mk b16 l17 n18)) ∧
  Dy.mid
  (Dy.mulD (Dy.Dyd.mk b44 l45 n46)
  (Dy.Dyd.mk b13 l14 n15)) ∧
  Dy.mid
  (Dy.mulD (Dy.Dyd.mk b44 l45 n46)
  (Dy.Dyd.mk b16 l17 n18)) ∧
  (1 : Int) ≤ (8192 : Int) ∧ (8192 : Int) ≤ (8192 : Int)) ∧
  dyF
  (Dy.endD
  (bif !b41 && !b13 then
  Dy.mulD (Dy.Dyd.mk b41 l42 n43) (Dy.Dyd.mk b13 l14 n15)
  else
  Dy.min4 (Dy.mulD (Dy.Dyd.mk b41 l42 n43) (Dy.Dyd.mk b13 l14 n15))
  (Dy.mulD (Dy.Dyd.mk b41 l42 n43) (Dy.Dyd.mk b16 l17 n18))
  (Dy.mulD (Dy.Dyd.mk b44 l45 n46) (Dy.Dyd.mk b13 l14 n15))
  (Dy.mulD (Dy.Dyd.mk b44 l45 n46) (Dy.Dyd.mk b16 l17 n18)))
  (8192 : Int) false)
  fun b47 l48 n49 =>
  dyF
  (Dy.endD
  (bif !b41 && !b13 then
  Dy.mulD (Dy.Dyd.mk b44 l45 n46) (Dy.Dyd.mk b16 l17 n18)
  else
  Dy.max4 (Dy.mulD (Dy.Dyd.mk b41 l42 n43) (Dy.Dyd.mk b13 l14 n15))
  (Dy.mulD (Dy.Dyd.mk b41 l42 n43) (Dy.Dyd.mk b16 l17 n18))
  (Dy.mulD (Dy.Dyd.mk b44 l45 n46) (Dy.Dyd.mk b13 l14 n15))
  (Dy.mulD (Dy.Dyd.mk b44 l45 n46) (Dy.Dyd.mk b16 l17 n18)))
  (8192 : Int) true)
  fun b50 l51 n52 =>
  (Dy.mayD (Dy.Dyd.mk b35 l36 n37) = true ∧
  Dy.mayD (Dy.Dyd.mk b38 l39 n40) = true ∧
  Dy.mayD (Dy.Dyd.mk b47 l48 n49) = true ∧
  Dy.mayD (Dy.Dyd.mk b50 l51 n52) = true ∧
  Dy.mid
  (Dy.subD (Dy.Dyd.mk b35 l36 n37)
  (Dy.Dyd.mk b50 l51 n52)) ∧
  Dy.mid
  (Dy.subD (Dy.Dyd.mk b38 l39 n40)
  (Dy.Dyd.mk b47 l48 n49)) ∧
  (1 : Int) ≤ (8192 : Int) ∧
  (8192 : Int) ≤ (8192 : Int)) ∧
  dyF
  (Dy.endD (Dy.subD (Dy.Dyd.mk b35 l36 n37) (Dy.Dyd.mk b50 l51 n52))
  (8192 : Int) false)
  fun b53 l54 n55 =>
  dyF
  (Dy.endD
  (Dy.subD (Dy.Dyd.mk b38 l39 n40) (Dy.Dyd.mk b47 l48 n49))
  (8192 : Int) true)
  fun b56 l57 n58 =>
  Q
  (AV.tup
  [AV.num IntKind.i64
  (Dy.at_ (Dy.Dyd.mk b31 l32 n33) (0 : Int) % (4 : Int)),
  AV.agg
  [AV.bool b53, AV.dig [(0 : Nat)] l54,
  AV.num IntKind.i64 n55, AV.bool b56,
  AV.dig [(0 : Nat)] l57, AV.num IntKind.i64 n58],
  AV.bool true])) := by kernel_rfl
end Go.AI

namespace Go.Dy
theorem fit_len {d : Dyd} {L E k : Nat} (h : Fit d L E) (hk : L ≤ 32 * k) : d.mag.length ≤ k := by
  have hm := may_dg (mayD_may (s := d.neg) (m := d.mag) (e := d.exp) h.may)
  rw [← hm]
  exact length_dg_bl.2 (Nat.le_trans h.bits hk)
theorem make_form {s : Bool} {N : Nat} {e : Int} {L E : Nat} (hb : bl N ≤ L) (h1 : -(E : Int) ≤ e) (h2 : e + bl N ≤ E) (hL : L ≤ 131072) (hE : E ≤ 16777216) : makeD s (dg N) e = (form s N e, 0) := by
  unfold makeD
  rw [if_pos (may_dgn.2 (len_bl.2 (by omega))), val_dg, (fit_form hb h1 h2 hL hE).2]
end Go.Dy
namespace Go.AI
open Go Go.RowKit Go.Proofs
set_option linter.unusedVariables false
set_option maxRecDepth 100000
set_option maxHeartbeats 1000000
theorem ok_span_Pi (args : List AV) (s : Spec) (h : sPiS args = some s) (hp : andO s.pre True) : Contract Tryd.prog Inv 31 args s.res := by
  unfold sPiS at h
  split at h
  · cases h
    rename_i n
    obtain ⟨⟨n1, n2⟩, -⟩ := hp
    refine contract0 false ok_tabR3 Tryd.func31 (by kernel_rfl) (by kernel_rfl) fun hok => ?_
    obtain ⟨j, rfl⟩ : ∃ j : Nat, n = (j : Int) := ⟨n.toNat, by omega⟩
    have w1 : IntKind.i64.wrap ((j : Int) + 20) = ((j + 20 : Nat) : Int) := by rw [wrap_i64 (by omega) (by omega)]; omega
    obtain ⟨m, hm⟩ : ∃ m : Nat, j + 20 = m := ⟨_, rfl⟩
    rw [hm] at w1
    obtain ⟨D, e1, e2, s0, s1, d1, d2, -⟩ := Dy.pi_parts (m := m) (by omega) (by omega)
    have a5 := Dy.arcA_spec (b := m) (n := 5) (by decide)
    have a239 := Dy.arcA_spec (b := m) (n := 239) (by decide)
    have hs : Dy.slkN m = 16 * (2 * Dy.arcT m 5 + 2) + 4 * (2 * Dy.arcT m 239 + 2) := rfl
    have b2 : Dy.bl (2 * 2 ^ m) = m + 2 := by
      have := Dy.bl_mul_two_pow (n := 1) (by decide) (m + 1)
      rw [Nat.one_mul, show Dy.bl 1 = 1 from rfl, Nat.pow_succ, Nat.mul_comm] at this
      omega
    have v5 : Dy.bl (Dy.arcV m 5) ≤ m + 2 := by rw [← b2]; exact Dy.bl_mono (Nat.le_trans (Nat.sub_le _ _) a5.2.2.2.2.1)
    have v239 : Dy.bl (Dy.arcV m 239) ≤ m + 2 := by rw [← b2]; exact Dy.bl_mono (Nat.le_trans (Nat.sub_le _ _) a239.2.2.2.2.1)
    have vs : Dy.bl (Dy.slkN m) ≤ 18 := by
      have := Dy.bl_mono s1
      rw [show Dy.bl 131072 = 18 from Dy.bl_eq (by decide) (by decide)] at this
      exact this
    clear a5 a239
    have m5 : Dy.makeD false (Dy.dg (Dy.arcV m 5)) (4 - (m : Int)) = (Dy.form false (Dy.arcV m 5) (4 - (m : Int)), 0) := Dy.make_form (L := 8300) (E := 9000) (by omega) (by omega) (by omega) (by decide) (by decide)
    have m239 : Dy.makeD false (Dy.dg (Dy.arcV m 239)) (2 - (m : Int)) = (Dy.form false (Dy.arcV m 239) (2 - (m : Int)), 0) := Dy.make_form (L := 8300) (E := 9000) (by omega) (by omega) (by omega) (by decide) (by decide)
    have ms : Dy.makeD false (Dy.dg (Dy.slkN m)) (-(m : Int)) = (Dy.form false (Dy.slkN m) (-(m : Int)), 0) := Dy.make_form (L := 8300) (E := 9000) (by omega) (by omega) (by omega) (by decide) (by decide)
    have f5 := (Dy.fit_form (s := false) (n := Dy.arcV m 5) (e := 4 - (m : Int)) (L := 8300) (E := 9000) (by omega) (by omega) (by omega) (by decide) (by decide)).1
    have f239 := (Dy.fit_form (s := false) (n := Dy.arcV m 239) (e := 2 - (m : Int)) (L := 8300) (E := 9000) (by omega) (by omega) (by omega) (by decide) (by decide)).1
    have fs := (Dy.fit_form (s := false) (n := Dy.slkN m) (e := -(m : Int)) (L := 8300) (E := 9000) (by omega) (by omega) (by omega) (by decide) (by decide)).1
    have p8 : (2 : Int) ^ (m + 3) = 8 * 2 ^ m := by rw [Int.pow_add, Int.mul_comm]; rfl
    have fD : Dy.Fit (Dy.formZ D (-(m : Int))) 8300 9000 := Dy.formZ_fit (Nat.le_trans (Dy.bl_lt_pow (k := m + 3) (by omega) (by rw [p8]; omega)) (by omega)) (by omega) (by omega) (by decide) (by decide)
    have fl : Dy.Fit (Dy.formZ (D - Dy.slkN m) (-(m : Int))) 8300 9000 := Dy.formZ_fit (Nat.le_trans (Dy.bl_lt_pow (k := m + 3) (by omega) (by rw [p8]; omega)) (by omega)) (by omega) (by omega) (by decide) (by decide)
    have fh : Dy.Fit (Dy.formZ (D + Dy.slkN m) (-(m : Int))) 8300 9000 := Dy.formZ_fit (Nat.le_trans (Dy.bl_lt_pow (k := m + 3) (by omega) (by rw [p8]; omega)) (by omega)) (by omega) (by omega) (by decide) (by decide)
    have ep : Dy.subD (Dy.form false (Dy.arcV m 5) (4 - (m : Int))) (Dy.form false (Dy.arcV m 239) (2 - (m : Int))) = Dy.piD (m : Int) := by unfold Dy.piD; rw [Int.toNat_natCast]
    have es : Dy.form false (Dy.slkN m) (-(m : Int)) = Dy.slkD (m : Int) := by unfold Dy.slkD; rw [Int.toNat_natCast]
    have el : Dy.subD (Dy.piD (m : Int)) (Dy.slkD (m : Int)) = Dy.formZ (D - Dy.slkN m) (-(m : Int)) := by rw [e1, e2, Dy.sub_formZ _ _ (by omega)]
    have eh : Dy.addD (Dy.piD (m : Int)) (Dy.slkD (m : Int)) = Dy.formZ (D + Dy.slkN m) (-(m : Int)) := by rw [e1, e2, Dy.add_formZ _ _ (by omega)]
    have hj : (j : Int) + 20 = (m : Int) := by omega
    rw [vc_span_Pi, w1, Int.toNat_natCast, wrap_i64 (n := 4 - (m : Int)) (by omega) (by omega), wrap_i64 (n := 2 - (m : Int)) (by omega) (by omega), wrap_i64 (n := 0 - (m : Int)) (by omega) (by omega), Int.zero_sub]
    refine ⟨⟨by omega, by omega, .inl rfl⟩, ?_⟩
    rintro _ rfl _ rfl
    refine ⟨⟨by omega, by omega, .inr rfl⟩, ?_⟩
    rintro _ rfl _ rfl
    have hu : (IntKind.u64.wrap (IntKind.u64.wrap (16 * ((2 * Dy.arcT m 5 + 2 : Nat) : Int)) + IntKind.u64.wrap (4 * ((2 * Dy.arcT m 239 + 2 : Nat) : Int)))).toNat = Dy.slkN m := by
      rw [wrap_u64, wrap_u64, wrap_u64]
      omega
    rw [hu, m5, m239, ms]
    refine dpeel fun b1 l1 k1 g1 => ?_
    rintro _ -
    refine dpeel fun b2 l2 k2 g2 => ?_
    rintro _ -
    refine dpeel fun b3 l3 k3 g3 => ?_
    rintro _ -
    have g1 : Dy.Dyd.mk b1 l1 k1 = Dy.form false (Dy.arcV m 5) (4 - (m : Int)) := g1
    have g2 : Dy.Dyd.mk b2 l2 k2 = Dy.form false (Dy.arcV m 239) (2 - (m : Int)) := g2
    have g3 : Dy.Dyd.mk b3 l3 k3 = Dy.form false (Dy.slkN m) (-(m : Int)) := g3
    rw [g1, g2, g3, ep]
    refine ⟨⟨f5.may, f239.may, by rw [e1]; exact fD.may⟩, dpeel fun b4 l4 k4 g4 => ?_⟩
    rw [g4, es]
    refine ⟨⟨by rw [e1]; exact fD.may, by rw [← es]; exact fs.may, by rw [el]; exact fl.may⟩, dpeel fun b5 l5 k5 g5 => ⟨⟨by rw [e1]; exact fD.may, by rw [← es]; exact fs.may, by rw [eh]; exact fh.may⟩, dpeel fun b6 l6 k6 g6 => ?_⟩⟩
    rw [g5, g6]
    refine ⟨⟨by rw [el]; exact Dy.fit_mid fl (by decide), by rw [eh]; exact Dy.fit_mid fh (by decide), by omega, by omega⟩, dpeel fun b7 l7 k7 g7 => dpeel fun b8 l8 k8 g8 => ?_⟩
    refine avS_of ?_ ?_
    · rw [g7]
      unfold Dy.piLo
      rw [hj]
    · rw [g8]
      unfold Dy.piHi
      rw [hj]
  · cases h
theorem ok_tabR4 : PhiOk Tryd.prog Inv (look tabR4) := look_cons ok_tabR3 ok_span_Pi

theorem ok_span_Quarters (args : List AV) (s : Spec) (h : sQuarters args = some s) (hp : andO s.pre True) : Contract Tryd.prog Inv 17 args s.res := by
  unfold sQuarters at h
  split at h
  · cases h
    rename_i n s m e
    obtain ⟨⟨hx, n1, n2⟩, -⟩ := hp
    refine contract0 false ok_tabR4 Tryd.func17 (by kernel_rfl) (by kernel_rfl) fun hok => ?_
    obtain ⟨j, rfl⟩ : ∃ j : Nat, n = (j : Int) := ⟨n.toNat, by omega⟩
    obtain ⟨x1, x2, x3, x4, x5, _, _⟩ := Dy.angle_facts hx
    obtain ⟨V, hV⟩ : ∃ V : Nat, V = 500000 := ⟨_, rfl⟩
    obtain ⟨K, hK⟩ : ∃ K : Nat, K = 1102 := ⟨_, rfl⟩
    obtain ⟨⟨fa, sa, na⟩, ⟨fb, sb, nb⟩, ma, mb, -⟩ := Dy.q_facts (n := j) (by omega) (by omega) (V := V) (by omega)
    have hkf := Dy.k_facts hx (n := j) (V := V) (by omega) (by omega) (by omega)
    have fk := hkf.1.1
    have fk' := hkf.1.2
    have huf := Dy.near_facts fk (V := V) (by omega) hK hkf.2.2.2.2.2.1.1 hkf.2.2.2.2.2.1.2
    have hwf := Dy.near_facts fk' (V := V) (by omega) hK hkf.2.2.2.2.2.2.1 hkf.2.2.2.2.2.2.2
    clear hkf
    have u1 := huf.1
    have u2 := huf.2.1
    have u3 := huf.2.2.1
    have u4 := huf.2.2.2.1
    have u5 := huf.2.2.2.2.2.2
    have w1 := hwf.1
    have w2 := hwf.2.1
    clear huf hwf
    have fx : Dy.mid ⟨s, m, e⟩ := Dy.fit_mid x5 (by decide)
    have lx : m.length ≤ 1000 := Dy.fit_len (d := ⟨s, m, e⟩) x5 (by decide)
    rw [vc_span_Quarters, if_pos x1]
    refine cond_f (decide_eq_false (by have := hx.2.2.2.1; omega)) ⟨⟨by omega, by omega⟩, dpeel fun b1 l1 i1 d1 => dpeel fun b2 l2 i2 d2 => ?_⟩
    rw [d1, d2]
    refine ⟨⟨ma, mb, by decide, by decide⟩, dpeel fun b3 l3 i3 d3 => dpeel fun b4 l4 i4 d4 => dpeel fun b5 l5 i5 d5 => dpeel fun b6 l6 i6 d6 => ?_⟩
    have d3 : Dy.Dyd.mk b3 l3 i3 = Dy.qLo j := d3
    have d4 : Dy.Dyd.mk b4 l4 i4 = Dy.qHi j := d4
    cases d5
    cases d6
    refine ⟨⟨fx, fx, by rw [d3]; exact Dy.fit_mid fa (by decide), by rw [d4]; exact Dy.fit_mid fb (by decide), by rw [← d3] at sa; exact sa, by rw [← d4] at sb; exact sb, by rw [← d3] at na; exact na, by rw [← d4] at nb; exact nb, lx, lx,
      by rw [← d3] at fa; exact Dy.fit_len (d := ⟨b3, l3, i3⟩) fa (by decide), by rw [← d4] at fb; exact Dy.fit_len (d := ⟨b4, l4, i4⟩) fb (by decide), by omega, by omega⟩, ?_⟩
    rw [d3, d4]
    refine dpeel fun b7 l7 i7 d7 => dpeel fun b8 l8 i8 d8 => ?_
    have d7 : Dy.Dyd.mk b7 l7 i7 = Dy.kLo j ⟨s, m, e⟩ := d7
    have d8 : Dy.Dyd.mk b8 l8 i8 = Dy.kHi j ⟨s, m, e⟩ := d8
    rw [d7, d8]
    refine ⟨⟨fk.may, fk'.may, u1, w1, u2, w2⟩, dpeel fun b9 l9 i9 d9 => ?_⟩
    have d9 : Dy.Dyd.mk b9 l9 i9 = Dy.nrD j ⟨s, m, e⟩ := d9
    rintro b10 h10
    have h10 : b10 = Dy.qOk j ⟨s, m, e⟩ := h10
    rw [h10]
    have u3 : 0 ≤ (Dy.nrD j ⟨s, m, e⟩).exp := u3
    have u2 : Dy.mayD (Dy.nrD j ⟨s, m, e⟩) = true := u2
    have u4 : Dy.Fit (Dy.nrD j ⟨s, m, e⟩) 1104 1104 := u4
    cases hq : Dy.qOk j ⟨s, m, e⟩ with
    | false => exact cond_t rfl rfl
    | true =>
      have htf := Dy.t_facts (n := j) (V := V) (K := K + 1) (by omega) (by omega) (by omega) (by omega) u4 u3 u5
      have t1 := htf.1
      have t2 := htf.2.1
      have t3 := htf.2.2.1
      have t4 := htf.2.2.2.1
      clear htf
      have hrf := Dy.r_facts hx (n := j) (V := V) (K := K + 1) (by omega) (by omega) (by omega) (by omega) u4 u3 u5
      have r1 := hrf.1
      have r2 := hrf.2.1
      clear hrf
      have i9e : i9 = (Dy.nrD j ⟨s, m, e⟩).exp := congrArg Dy.Dyd.exp d9
      refine cond_f rfl ?_
      refine ⟨⟨by rw [d9]; exact u2, by omega⟩, dpeel fun c1 g1 z1 y1 => dpeel fun c2 g2 z2 y2 => dpeel fun c3 g3 z3 y3 => dpeel fun c4 g4 z4 y4 => ?_⟩
      cases y1
      cases y2
      cases y3
      cases y4
      rw [d9]
      refine ⟨⟨u2, u2, fa.may, fb.may, t1, t2, t1, t2, by decide, by decide⟩, ?_⟩
      have a1 : b9 = (Dy.nrD j ⟨s, m, e⟩).neg := congrArg Dy.Dyd.neg d9
      have a2 : b3 = (Dy.qLo j).neg := congrArg Dy.Dyd.neg d3
      rw [a1, a2]
      refine dpeel fun c1 g1 z1 y1 => dpeel fun c2 g2 z2 y2 => ?_
      have y1 : Dy.Dyd.mk c1 g1 z1 = Dy.tLo j (Dy.nrD j ⟨s, m, e⟩) := y1
      have y2 : Dy.Dyd.mk c2 g2 z2 = Dy.tHi j (Dy.nrD j ⟨s, m, e⟩) := y2
      rw [y1, y2]
      refine ⟨⟨x1, x1, t3.may, t4.may, r1, r2, by decide, by decide⟩, dpeel fun c3 g3 z3 y3 => dpeel fun c4 g4 z4 y4 => ?_⟩
      have hS := avS_of (p := [0]) y3 y4
      exact congrArg (fun a => AV.tup [_, a, .bool true]) hS
  · cases h
theorem ok_tabR5 : PhiOk Tryd.prog Inv (look tabR5) := look_cons ok_tabR4 ok_span_Quarters
end Go.AI

namespace Go.Dy
/-- the power of two over which all is held against -/
def vu : Nat := 500000
theorem vu_eq : vu = 500000 := rfl
def ansK (x : Dyd) : Int := nearZ (at_ x (-(vu : Int))) (quart vu)
def ansR (x : Dyd) : Int := at_ x (-(vu : Int)) - ansK x * quart vu
def ansD (x : Dyd) (b : Int) : Dyd := (cutR (formZ (ansR x) (-(vu : Int))) b).1
theorem cutR_cutV (z e : Int) {b : Nat} (hb : 1 ≤ b) : (cutR (formZ z e) b).1 = formZ (cutV z b) e := by
  rw [cutR_formZ z e b (by omega)]
  simp only
  have ht : ((bl z.natAbs : Int) - (b : Int)).toNat = bl z.natAbs - b := by omega
  rw [ht, form_sgn, ← formZ_mul]
  congr 1
  unfold cutV cutN
  rw [← pow_cast, sgn_mul]
theorem cut_form {d : Dyd} (h : mayD d = true) {b : Nat} (hb : 1 ≤ b) {V : Nat} (hV : -(V : Int) ≤ d.exp) : (cutR d b).1 = formZ (cutV (at_ d (-(V : Int))) b) (-(V : Int)) := by
  rw [← cutR_cutV _ _ hb, formZ_at h hV]
theorem cut_exp {d : Dyd} {b : Nat} (hb : 1 ≤ b) {V : Nat} (h : mayD d = true) (hV : -(V : Int) ≤ d.exp) : -(V : Int) ≤ (cutR d b).1.exp := by
  rw [cut_form h hb hV]
  exact exp_formZ (Int.le_refl _) (by omega)
/-- both ends cut alike: what lies between is, too -/
theorem cut_between {lo R hi : Int} {b : Nat} (hb : 1 ≤ b) (h1 : lo ≤ R) (h2 : R ≤ hi) (hs : (0 < lo) ∨ (hi < 0)) (hc : cutV lo b = cutV hi b) : cutV R b = cutV lo b := by
  unfold cutV at hc ⊢
  rcases hs with h | h
  · rw [decide_eq_false (by omega : ¬ lo < 0), decide_eq_false (by omega : ¬ hi < 0)] at hc
    rw [decide_eq_false (by omega : ¬ lo < 0), decide_eq_false (by omega : ¬ R < 0)]
    unfold sgn at hc ⊢
    simp only [Bool.false_eq_true, if_false] at hc ⊢
    have hc := Int.ofNat_inj.1 hc
    rw [cutN_between hb (X := lo.natAbs) (Y := R.natAbs) (Z := hi.natAbs) (by omega) (by omega) hc]
  · rw [decide_eq_true (by omega : lo < 0), decide_eq_true h] at hc
    rw [decide_eq_true (by omega : lo < 0), decide_eq_true (by omega : R < 0)]
    unfold sgn at hc ⊢
    simp only [if_true] at hc ⊢
    have hc : cutN hi.natAbs b = cutN lo.natAbs b := by omega
    have := cutN_between hb (X := hi.natAbs) (Y := R.natAbs) (Z := lo.natAbs) (by omega) (by omega) hc
    rw [this, hc]
theorem sign_span {a c : Dyd} {V : Nat} (ha : mayD a = true) (hc : mayD c = true) (ea : -(V : Int) ≤ a.exp) (ec : -(V : Int) ≤ c.exp) (hle : at_ a (-(V : Int)) ≤ at_ c (-(V : Int))) : signS a c ≠ 0 ↔ (0 < at_ a (-(V : Int)) ∨ at_ c (-(V : Int)) < 0) := by
  unfold signS
  rw [signD_at ha ea, signD_at hc ec]
  generalize at_ a (-(V : Int)) = A at *
  generalize at_ c (-(V : Int)) = C at *
  constructor
  · intro h
    refine Decidable.byContradiction fun c => h ?_
    unfold cmpZ
    have h1 : ¬ 0 < A := fun h => c (.inl h)
    have h2 : ¬ C < 0 := fun h => c (.inr h)
    rw [if_neg h1, if_neg h2]
    by_cases h3 : A < 0
    · rw [if_pos h3]
      by_cases h4 : 0 < C
      · rw [if_pos h4, if_neg (by decide)]
      · rw [if_neg h4, if_neg (by decide)]
    · rw [if_neg h3, ite_self]
  · rintro (h | h)
    · rw [cmpZ_gt h, cmpZ_gt (by omega : 0 < C), if_pos rfl]
      decide
    · rw [cmpZ_lt h, cmpZ_lt (by omega : A < 0), if_pos rfl]
      decide
/-- what the layer reckons, leads to the answer; with enough bits it is known -/
theorem quart_ok {x : Dyd} (hx : angle x) {n : Nat} (h1 : 20 ≤ n) (h2 : n ≤ 8092) :
    (qOk n x = true → at_ (nrD n x) 0 = ansK x ∧ mid (rLo n x) ∧ mid (rHi n x) ∧ ∀ b : Nat, 1 ≤ b → signS (rLo n x) (rHi n x) ≠ 0 → cmpD (cutR (rLo n x) b).1 (cutR (rHi n x) b).1 = 0 → (cutR (rLo n x) b).1 = ansD x b) ∧
    (5120 ≤ n → qOk n x = true ∧ ∀ b : Nat, 1 ≤ b → b ≤ 1500 → signS (rLo n x) (rHi n x) ≠ 0 ∧ cmpD (cutR (rLo n x) b).1 (cutR (rHi n x) b).1 = 0) := by
  obtain ⟨V, hV⟩ : ∃ V : Nat, vu = V := ⟨_, rfl⟩
  have hV5 : V = 500000 := by rw [← hV]; exact vu_eq
  unfold ansD ansR ansK
  rw [hV]
  clear hV
  obtain ⟨K, hK⟩ : ∃ K : Nat, K = 1102 := ⟨_, rfl⟩
  have hq := quart_lo (V := V) (by rw [hV5]; unfold prec; omega)
  have D0 : (0 : Int) < 2 ^ V := Int.pow_pos (by decide)
  have P0 : 0 < quart V := by omega
  have hx1 := angle_facts hx
  have x1 := hx1.1
  have x2 := hx1.2.1
  have xb := hx1.2.2.2.1
  have x6 := hx1.2.2.2.2.2.1 V (by omega)
  clear hx1
  have hkf := k_facts hx (n := n) (V := V) (by omega) (by omega) (by omega)
  have fk := hkf.1.1
  have fk' := hkf.1.2
  have y1 := hkf.2.1
  have y2 := hkf.2.2.1
  have z1 := hkf.2.2.2.1
  have z2 := hkf.2.2.2.2.1
  have huf := near_facts fk (V := V) (by omega) hK hkf.2.2.2.2.2.1.1 hkf.2.2.2.2.2.1.2
  have hwf := near_facts fk' (V := V) (by omega) hK hkf.2.2.2.2.2.2.1 hkf.2.2.2.2.2.2.2
  clear hkf
  have u2 : mayD (nrD n x) = true := huf.2.1
  have u3 : 0 ≤ (nrD n x).exp := huf.2.2.1
  have u4 : Fit (nrD n x) 1104 1104 := huf.2.2.2.1
  have u5 : 2 * (at_ (nrD n x) 0 * 2 ^ V) ≤ 2 * at_ (kLo n x) (-(V : Int)) + 2 ^ V := huf.2.2.2.2.1
  have u6 : 2 * at_ (kLo n x) (-(V : Int)) + 2 ^ V < 2 * (at_ (nrD n x) 0 * 2 ^ V) + 2 * 2 ^ V := huf.2.2.2.2.2.1
  have u7 : (at_ (nrD n x) 0).natAbs ≤ 2 ^ (K + 1) := huf.2.2.2.2.2.2
  have w3 : 0 ≤ (nrH n x).exp := hwf.2.2.1
  have w5 : 2 * (at_ (nrH n x) 0 * 2 ^ V) ≤ 2 * at_ (kHi n x) (-(V : Int)) + 2 ^ V := hwf.2.2.2.2.1
  have w6 : 2 * at_ (kHi n x) (-(V : Int)) + 2 ^ V < 2 * (at_ (nrH n x) 0 * 2 ^ V) + 2 * 2 ^ V := hwf.2.2.2.2.2.1
  clear huf hwf
  have hok : qOk n x = true ↔ at_ (nrD n x) 0 = at_ (nrH n x) 0 := by
    unfold qOk
    rw [decide_eq_true_iff]
    exact cmp_eq_iff u3 w3
  have hrf := r_facts hx (n := n) (V := V) (K := K + 1) (by omega) (by omega) (by omega) (by omega) u4 u3 u7
  have m1 := hrf.1
  have m2 := hrf.2.1
  have f1 : Fit (rLo n x) 8193 312412 := hrf.2.2.1
  have f2 : Fit (rHi n x) 8193 312412 := hrf.2.2.2.1
  have r1 : at_ (rLo n x) (-(V : Int)) ≤ at_ x (-(V : Int)) - at_ (nrD n x) 0 * quart V := hrf.2.2.2.2.1
  have r2 : at_ x (-(V : Int)) - at_ (nrD n x) 0 * quart V ≤ at_ (rHi n x) (-(V : Int)) := hrf.2.2.2.2.2.1
  have r3 : at_ (rHi n x) (-(V : Int)) - at_ (rLo n x) (-(V : Int)) ≤ 2 ^ (V + 1110 - n) := hrf.2.2.2.2.2.2
  clear hrf
  have hz := r_zero hx (n := n) h1 (by omega) u4 u3
  have hz : at_ (nrD n x) 0 = 0 → rLo n x = x ∧ rHi n x = x := hz
  have e1 : -(V : Int) ≤ (rLo n x).exp := by have := f1.lo; omega
  have e2 : -(V : Int) ≤ (rHi n x).exp := by have := f2.lo; omega
  have hne : qOk n x = true → nearZ (at_ x (-(V : Int))) (quart V) = at_ (nrD n x) 0 := fun h => by
    rw [hok] at h
    rw [← h] at w6
    exact near_between P0 D0 y1 z1 u5 w6
  have hcmp : ∀ b : Nat, 1 ≤ b → (cmpD (cutR (rLo n x) b).1 (cutR (rHi n x) b).1 = 0 ↔ cutV (at_ (rLo n x) (-(V : Int))) b = cutV (at_ (rHi n x) (-(V : Int))) b) := fun b hb => by
    rw [cmp_eq_iff (cut_exp hb f1.may e1) (cut_exp hb f2.may e2), cutR_at2 f1.may hb e1, cutR_at2 f2.may hb e2]
  have hsg := sign_span f1.may f2.may e1 e2 (by omega)
  refine ⟨fun h => ?_, fun h5 => ?_⟩
  · have hk := hne h
    rw [hk]
    refine ⟨rfl, fit_mid f1 (by decide), fit_mid f2 (by decide), fun b hb hs hc => ?_⟩
    rw [hcmp b hb] at hc
    rw [hsg] at hs
    rw [cut_form f1.may hb e1, cutR_cutV _ _ hb]
    rw [cut_between hb r1 r2 hs hc]
  · have hq1 : qOk n x = true := by
      rw [hok]
      refine Decidable.byContradiction fun c => ?_
      -- a half lies between both
      have yz : at_ (kLo n x) (-(V : Int)) ≤ at_ (kHi n x) (-(V : Int)) := Int.le_of_mul_le_mul_right (Int.le_trans y1 z1) P0
      have lt : at_ (nrD n x) 0 < at_ (nrH n x) 0 := by
        have : at_ (nrD n x) 0 < at_ (nrH n x) 0 + 1 := by
          refine Int.lt_of_mul_lt_mul_right (a := 2 ^ V) ?_ (Int.le_of_lt D0)
          rw [Int.add_mul, Int.one_mul]
          omega
        omega
      have k1 : (at_ (nrD n x) 0 + 1) * 2 ^ V ≤ at_ (nrH n x) 0 * 2 ^ V := Int.mul_le_mul_of_nonneg_right (by omega) (Int.le_of_lt D0)
      rw [Int.add_mul, Int.one_mul] at k1
      obtain ⟨j, hj⟩ : ∃ j : Int, at_ (nrH n x) 0 = j := ⟨_, rfl⟩
      rw [hj] at k1 w5
      -- times a quarter
      have a1 := Int.mul_le_mul_of_nonneg_right (show 2 * at_ (kLo n x) (-(V : Int)) ≤ 2 * (j * 2 ^ V) - 2 ^ V by omega) (Int.le_of_lt P0)
      have a2 := Int.mul_le_mul_of_nonneg_right (show 2 * (j * 2 ^ V) - 2 ^ V ≤ 2 * at_ (kHi n x) (-(V : Int)) by omega) (Int.le_of_lt P0)
      have e3 : (2 * (j * 2 ^ V) - 2 ^ V) * quart V = (2 * j - 1) * quart V * 2 ^ V := by
        rw [← Int.mul_assoc, show 2 * j * 2 ^ V - 2 ^ V = (2 * j - 1) * 2 ^ V by rw [Int.sub_mul, Int.one_mul], Int.mul_right_comm]
      rw [e3] at a1 a2
      rw [Int.mul_assoc 2, Int.mul_assoc (2 * j - 1)] at a1 a2
      -- near to the angle
      have e4 : (2 : Int) ^ (2 * V + 1108 - n) = 2 ^ (V + 1108 - n) * 2 ^ V := by
        rw [← Int.pow_add, show V + 1108 - n + V = 2 * V + 1108 - n by omega]
      rw [e4] at y2 z2
      have g1 : ((2 * j - 1) * quart V - 2 * at_ x (-(V : Int))) * 2 ^ V ≤ (2 * 2 ^ (V + 1108 - n)) * 2 ^ V := by
        rw [Int.sub_mul, Int.mul_assoc 2, Int.mul_assoc 2, Int.mul_assoc (2 * j - 1)]
        omega
      have g2 : (2 * at_ x (-(V : Int)) - (2 * j - 1) * quart V) * 2 ^ V ≤ (2 * 2 ^ (V + 1108 - n)) * 2 ^ V := by
        rw [Int.sub_mul, Int.mul_assoc 2, Int.mul_assoc 2, Int.mul_assoc (2 * j - 1)]
        omega
      have g1 := Int.le_of_mul_le_mul_right g1 D0
      have g2 := Int.le_of_mul_le_mul_right g2 D0
      have e5 : (2 : Int) * 2 ^ (V + 1108 - n) = 2 ^ (V + 1109 - n) := by
        rw [show V + 1109 - n = (V + 1108 - n) + 1 by omega, Int.pow_succ, Int.mul_comm]
      have e6 : (2 : Int) ^ (V + 1109 - n) ≤ 2 ^ (V - 4011) := two_le (by omega)
      have e7 : (2 : Int) ^ (V - 4011) ≤ 2 ^ V := two_le (by omega)
      rw [e5] at g1 g2
      have hb : (((2 * j - 1).natAbs : Nat) : Int) * quart V ≤ 2 * (at_ x (-(V : Int))).natAbs + 2 ^ V := by
        rcases Int.natAbs_eq (2 * j - 1) with e | e
        · rw [← e]; omega
        · rw [show (((2 * j - 1).natAbs : Nat) : Int) = -(2 * j - 1) by omega, Int.neg_mul]; omega
      have hf := half_far hx (V := V) (by omega) (j := 2 * j - 1) (by omega) hb
      have e8 : (2 : Nat) ^ (V - 4011) < 2 ^ (V - 4009) := Nat.pow_lt_pow_right (by decide) (by omega)
      have e9 := pow_cast (V - 4011)
      omega
    refine ⟨hq1, fun b hb1 hb2 => ?_⟩
    have hk := hne hq1
    have hnr := nearZ_near (X := at_ x (-(V : Int))) P0
    rw [hk] at hnr
    rw [hcmp b hb1, hsg]
    by_cases c : at_ (nrD n x) 0 = 0
    · obtain ⟨q1, q2⟩ := hz c
      rw [q1, q2]
      refine ⟨?_, rfl⟩
      have := x6.2
      have hp := Nat.two_pow_pos (V - 1)
      omega
    · have hbig := rest_big hx (V := V) (by omega) c hnr
      have hfar := fun B => rest_far hx (V := V) (by omega) c hnr B
      have hw : (2 : Int) ^ (V + 1110 - n) ≤ 2 ^ (V - 4010) := two_le (by omega)
      have hcn := cut_near (b := b) (G := V - 2905) (B := V - 1400) (W := V - 4010) (F := V - 4009) r1 r2 (by omega) (by omega) (by omega) hbig (by omega) hb1 hfar
      have hp := Nat.two_pow_pos (V - 1400)
      refine ⟨?_, by rw [hcn.1, hcn.2.1]⟩
      have h3 := hcn.2.2.1
      have h4 := hcn.2.2.2
      omega
end Go.Dy

namespace Go.Dy
/-- the error that a question has -/
def refuse (x : Dyd) (b : Int) : Int := if (mayD x && decide (1 ≤ b)) = true then (if 6000 < b ∨ 40 < x.mag.length then 3 else if 1100 < topD x then 20 else 0) else 2
def redK (x : Dyd) (b : Int) : Int := if refuse x b = 0 then (if topD x < 0 ∨ signD x = 0 then 0 else ansK x % 4) else 0
def redR (x : Dyd) (b : Int) : Dyd := if refuse x b = 0 then (if topD x < 0 ∨ signD x = 0 then (cutR x b).1 else ansD x b) else zeroD
/-- are so many bits enough? -/
def okB (x : Dyd) (b : Int) (n : Int) : Bool := qOk n x && (!decide (signS (rLo n x) (rHi n x) = 0) && decide (cmpD (cutR (rLo n x) b).1 (cutR (rHi n x) b).1 = 0))
/-- with how many bits it ends -/
def redN (x : Dyd) (b : Int) : Nat → Int → Int
  | 0, n => n
  | f + 1, n => bif okB x b (min n 8092) then n else redN x b f (n + (n / 2 + 1400))
end Go.Dy
namespace Go.AI
open Go Go.RowKit Go.Proofs
set_option linter.unusedVariables false
def sReduce : List AV → Option Spec
  | [.agg [.bool s, .dig [1] m, .num .i64 e], .num .i64 b] => some ⟨some (b ≤ 1500 ∨ 6000 < b), .tup [.num .i64 (Dy.redK ⟨s, m, e⟩ b), avD [0] (Dy.redR ⟨s, m, e⟩ b), .num .i64 (Dy.refuse ⟨s, m, e⟩ b)]⟩
  | _ => none
def tabR6 : List (Nat × (List AV → Option Spec)) := (6, sReduce) :: tabR5
end Go.AI

namespace Go.AI
open Go Go.RowKit Go.Proofs
set_option linter.unusedVariables false
set_option maxRecDepth 100000
set_option maxHeartbeats 0
def lsRed : List AV → Option LR
  | [.num .i64 b, .boxv [.bool s, .dig [1, 2, 3] m, .num .i64 e], .num .i64 q, .boxv [.bool s', .dig [3] m', .num .i64 e'], .num .i64 g, .num .i64 n] =>
  some (.need (Dy.angle ⟨s, m, e⟩ ∧ 1 ≤ b ∧ b ≤ 1500 ∧ 51 ≤ n ∧ n ≤ 100000) (.done .ret [.num .i64 b, .boxv [.bool s, .dig [1, 2, 3] m, .num .i64 e], .num .i64 (Dy.ansK ⟨s, m, e⟩ % 4),
  .boxv [.bool (Dy.ansD ⟨s, m, e⟩ b).neg, .dig [3] (Dy.ansD ⟨s, m, e⟩ b).mag, .num .i64 (Dy.ansD ⟨s, m, e⟩ b).exp], .num .i64 0, .num .i64 (Dy.redN ⟨s, m, e⟩ b 6 n)]))
  | _ => none
def keepRed : List (Nat × Keep) := [(1, .same), (2, .same), (4, .same), (5, .same), (6, .same), (7, .same)]
def lamRed := lam [(12, .spec keepRed lsRed)]
theorem vc_phase_Reduce (s : Bool) (m : List
  Nat) (e : Int) (b : Int) (Q : AV →
  Prop) : (evF Tryd.prog (look tabR5) lamRed false Tryd.f6
  [AV.agg [AV.bool s, AV.dig [(1 : Nat)] m, AV.num IntKind.i64 e], AV.num IntKind.i64 b] Q) =
  (bif !Dy.mayD (Dy.Dyd.mk s m e) then
  Q
  (AV.tup
  [AV.num IntKind.i64 (0 : Int), AV.agg [AV.bool false, AV.dig [(0 : Nat)] [], AV.num IntKind.i64 (0 : Int)],
  AV.num IntKind.i64 (2 : Int)])
 else
  bif decide (b < (1 : Int)) then
  Q
  (AV.tup
  [AV.num IntKind.i64 (0 : Int), AV.agg [AV.bool false, AV.dig [(0 : Nat)] [], AV.num IntKind.i64 (0 : Int)],
  AV.num IntKind.i64 (2 : Int)])
  else
  bif decide (b > (6000 : Int)) then
  Q
  (AV.tup
  [AV.num IntKind.i64 (0 : Int), AV.agg [AV.bool false, AV.dig [(0 : Nat)] [], AV.num IntKind.i64 (0 : Int)],
  AV.num IntKind.i64 (3 : Int)])
  else
  bif decide ((↑m.length : Int) > (40 : Int)) then
  Q
  (AV.tup
  [AV.num IntKind.i64 (0 : Int), AV.agg [AV.bool false, AV.dig [(0 : Nat)] [], AV.num IntKind.i64 (0 : Int)],
  AV.num IntKind.i64 (3 : Int)])
  else
  bif
  decide
  ((if Dy.mayD (Dy.Dyd.mk s m e) = true then Dy.topD (Dy.Dyd.mk s m e) else (0 : Int)) > (1100 : Int)) then
  Q
  (AV.tup
  [AV.num IntKind.i64 (0 : Int),
  AV.agg [AV.bool false, AV.dig [(0 : Nat)] [], AV.num IntKind.i64 (0 : Int)],
  AV.num IntKind.i64 (20 : Int)])
  else
  bif
  decide
  ((if Dy.mayD (Dy.Dyd.mk s m e) = true then Dy.topD (Dy.Dyd.mk s m e) else (0 : Int)) < (0 : Int)) then
  dyF (Dy.cutD (Dy.Dyd.mk s m e) b).num fun b1 l2 n3 =>
  ∀ (b4 : Bool),
  b4 = (Dy.cutD (Dy.Dyd.mk s m e) b).lost →
  ∀ (n5 : Int),
  n5 = (Dy.cutD (Dy.Dyd.mk s m e) b).err →
  Q
  (AV.tup
  [AV.num IntKind.i64 (0 : Int),
  AV.agg [AV.bool b1, AV.dig [(0 : Nat)] l2, AV.num IntKind.i64 n3], AV.num IntKind.i64 n5])
  else
  bif
  decide
  ((if Dy.mayD (Dy.Dyd.mk s m e) = true then Dy.signD (Dy.Dyd.mk s m e) else (0 : Int)) =
  (0 : Int)) then
  dyF (Dy.cutD (Dy.Dyd.mk s m e) b).num fun b6 l7 n8 =>
  ∀ (b9 : Bool),
  b9 = (Dy.cutD (Dy.Dyd.mk s m e) b).lost →
  ∀ (n10 : Int),
  n10 = (Dy.cutD (Dy.Dyd.mk s m e) b).err →
  Q
  (AV.tup
  [AV.num IntKind.i64 (0 : Int),
  AV.agg [AV.bool b6, AV.dig [(0 : Nat)] l7, AV.num IntKind.i64 n8],
  AV.num IntKind.i64 n10])
  else
  (Dy.angle (Dy.Dyd.mk s m e) ∧
  (1 : Int) ≤ b ∧
  b ≤ (1500 : Int) ∧
  (51 : Int) ≤
  IntKind.i64.wrap
  (IntKind.i64.wrap
  ((if Dy.mayD (Dy.Dyd.mk s m e) = true then Dy.topD (Dy.Dyd.mk s m e) else (0 : Int)) +
  b) +
  (50 : Int)) ∧
  IntKind.i64.wrap
  (IntKind.i64.wrap
  ((if Dy.mayD (Dy.Dyd.mk s m e) = true then Dy.topD (Dy.Dyd.mk s m e) else (0 : Int)) +
  b) +
  (50 : Int)) ≤
  (100000 : Int)) ∧
  Q
  (AV.tup
  [AV.num IntKind.i64 (Dy.ansK (Dy.Dyd.mk s m e) % (4 : Int)),
  AV.agg
  [AV.bool (Dy.ansD (Dy.Dyd.mk s m e) b).neg,
  AV.dig [(0 : Nat)] (Dy.ansD (Dy.Dyd.mk s m e) b).mag,
  AV.num IntKind.i64 (Dy.ansD (Dy.Dyd.mk s m e) b).exp],
  AV.num IntKind.i64 (0 : Int)])) := by kernel_rfl
theorem vc_phase_Reduce_1 (s : Bool) (s' : Bool) (m : List
  Nat) (m' : List
  Nat) (e : Int) (e' : Int) (b : Int) (q : Int) (g : Int) (n : Int) (K : Exit →
  List AV →
  Prop) : (evIter Tryd.prog (look tabR5) lamRed (2 : Nat) (84 : Nat) keepRed (bodyN Tryd.f6 (0 : Nat))
  [AV.num IntKind.i64 b, AV.boxv [AV.bool s, AV.dig [(1 : Nat), (2 : Nat), (3 : Nat)] m, AV.num IntKind.i64 e],
  AV.num IntKind.i64 q, AV.boxv [AV.bool s', AV.dig [(3 : Nat)] m', AV.num IntKind.i64 e'], AV.num IntKind.i64 g,
  AV.num IntKind.i64 n]
  K) =
  ((Dy.angle (Dy.Dyd.mk s m e) ∧
  ((20 : Int) ≤ if (8092 : Int) < n then (8092 : Int) else n) ∧
  (if (8092 : Int) < n then (8092 : Int) else n) ≤ (8092 : Int)) ∧
  ∀ (n1 : Int),
  (n1 =
  bif Dy.qOk (if (8092 : Int) < n then (8092 : Int) else n) (Dy.Dyd.mk s m e) then
  Dy.at_ (Dy.nrD (if (8092 : Int) < n then (8092 : Int) else n) (Dy.Dyd.mk s m e)) (0 : Int) % (4 : Int)
  else (0 : Int)) →
  dyF
  (bif Dy.qOk (if (8092 : Int) < n then (8092 : Int) else n) (Dy.Dyd.mk s m e) then
  Dy.rLo (if (8092 : Int) < n then (8092 : Int) else n) (Dy.Dyd.mk s m e)
  else Dy.zeroD)
  fun b2 l3 n4 =>
  dyF
  (bif Dy.qOk (if (8092 : Int) < n then (8092 : Int) else n) (Dy.Dyd.mk s m e) then
  Dy.rHi (if (8092 : Int) < n then (8092 : Int) else n) (Dy.Dyd.mk s m e)
  else Dy.zeroD)
  fun b5 l6 n7 =>
  ∀ (b8 : Bool),
  b8 = Dy.qOk (if (8092 : Int) < n then (8092 : Int) else n) (Dy.Dyd.mk s m e) →
  bif !b8 then
  K Exit.normal
  [AV.num IntKind.i64 b,
  AV.boxv [AV.bool s, AV.dig [(1 : Nat), (2 : Nat), (3 : Nat)] m, AV.num IntKind.i64 e],
  AV.num IntKind.i64 q, AV.boxv [AV.bool s', AV.dig [(3 : Nat)] m', AV.num IntKind.i64 e'],
  AV.num IntKind.i64 g,
  AV.num IntKind.i64
  (IntKind.i64.wrap (n + IntKind.i64.wrap (IntKind.i64.wrap (n.tdiv (2 : Int)) + (1400 : Int))))]
  else
  (Dy.mid (Dy.Dyd.mk b2 l3 n4) ∧ Dy.mid (Dy.Dyd.mk b5 l6 n7) ∧ (1 : Int) ≤ b ∧ b ≤ (8192 : Int)) ∧
  dyF
  (bif decide (Dy.signS (Dy.Dyd.mk b2 l3 n4) (Dy.Dyd.mk b5 l6 n7) = (0 : Int)) then Dy.zeroD
  else (Dy.cutR (Dy.Dyd.mk b2 l3 n4) b).fst)
  fun b9 l10 n11 =>
  ∀ (b12 : Bool),
  b12 =
  (!decide (Dy.signS (Dy.Dyd.mk b2 l3 n4) (Dy.Dyd.mk b5 l6 n7) = (0 : Int)) &&
  decide
  (Dy.cmpD (Dy.cutR (Dy.Dyd.mk b2 l3 n4) b).fst (Dy.cutR (Dy.Dyd.mk b5 l6 n7) b).fst =
  (0 : Int))) →
  bif b12 then
  K Exit.ret
  [AV.num IntKind.i64 b,
  AV.boxv [AV.bool s, AV.dig [(1 : Nat), (2 : Nat), (3 : Nat)] m, AV.num IntKind.i64 e],
  AV.num IntKind.i64 n1,
  AV.boxv [AV.bool b9, AV.dig [(3 : Nat)] l10, AV.num IntKind.i64 n11],
  AV.num IntKind.i64 (0 : Int), AV.num IntKind.i64 n]
  else
  K Exit.normal
  [AV.num IntKind.i64 b,
  AV.boxv [AV.bool s, AV.dig [(1 : Nat), (2 : Nat), (3 : Nat)] m, AV.num IntKind.i64 e],
  AV.num IntKind.i64 q, AV.boxv [AV.bool s', AV.dig [(3 : Nat)] m', AV.num IntKind.i64 e'],
  AV.num IntKind.i64 g,
  AV.num IntKind.i64
  (IntKind.i64.wrap
  (n +
  IntKind.i64.wrap
  (IntKind.i64.wrap (n.tdiv (2 : Int)) + (1400 : Int))))]) := by kernel_rfl
end Go.AI

namespace Go.Dy
theorem okB_iff {x : Dyd} {b n : Int} : okB x b n = true ↔ qOk n x = true ∧ signS (rLo n x) (rHi n x) ≠ 0 ∧ cmpD (cutR (rLo n x) b).1 (cutR (rHi n x) b).1 = 0 := by
  unfold okB
  simp only [Bool.and_eq_true, Bool.not_eq_true', decide_eq_true_eq, decide_eq_false_iff_not, ne_eq]
theorem cutD_top {d : Dyd} (h : mayD d = true) (ht : topD d ≤ 1100) {n : Int} (hn : 1 ≤ n ∧ n ≤ 8192) : cutD d n = ⟨(cutR d n).1, (cutR d n).2, 0⟩ := by
  obtain ⟨s, m, e⟩ := d
  have hm := mayD_may h
  have hb := may_bl hm
  have hx := mayD_exp h
  unfold cutD
  rw [if_pos h, if_pos (show askD n = 0 by unfold askD; rw [if_neg (by omega), if_neg (by omega)])]
  unfold cutL cutR
  by_cases c : overD ⟨s, m, e⟩ n ≤ 0
  · rw [if_pos c, if_pos c]
  · rw [if_neg c, if_neg c]
    have ho : overD ⟨s, m, e⟩ n = (bl (val m) : Int) - n := rfl
    have hm0 : m ≠ [] := fun e0 => by subst e0; rw [ho, show val [] = 0 from rfl, bl_zero] at c; omega
    have htop : topD ⟨s, m, e⟩ = e + bl (val m) := by unfold topD; rw [if_neg hm0]
    rw [htop] at ht
    have hq : bl (val m / 2 ^ (overD ⟨s, m, e⟩ n).toNat) ≤ n.toNat := by rw [bl_div_two_pow]; omega
    have hbd : boundD (headD ⟨s, m, e⟩ n) = (headD ⟨s, m, e⟩ n, 0) := by
      unfold headD
      have hf := form_dg (s := s) (n := val m / 2 ^ (overD ⟨s, m, e⟩ n).toNat) (e := e + overD ⟨s, m, e⟩ n)
      obtain ⟨g1, g2, g3, g4, g5⟩ := hf
      unfold boundD
      rw [if_pos (by rw [← g1]; exact len_bl.2 (Nat.le_trans g3 (by omega))), if_pos (inside_iff.2 ⟨by simp only at g4 ⊢; omega, by simp only at g5 ⊢; omega⟩)]
    rw [hbd]
    rfl
end Go.Dy
namespace Go.AI
open Go Go.RowKit Go.Proofs
set_option linter.unusedVariables false
set_option maxRecDepth 100000
set_option maxHeartbeats 1000000
theorem loop_phase_Reduce : LoopOk Tryd.prog (look tabR5) lamRed 2 84 keepRed (bodyN Tryd.f6 0) lsRed := by
  intro vals r h K hK
  unfold lsRed at h
  split at h
  · cases h
    rename_i b s m e q s' m' e' g n
    simp only [evLR] at hK
    obtain ⟨⟨hx, b1, b2, n1, n2⟩, hK⟩ := hK
    obtain ⟨bb, hbb⟩ : ∃ bb : Nat, b = (bb : Int) := ⟨b.toNat, by omega⟩
    have key : ∀ (f : Nat) (q : Int) (s' : Bool) (m' : List Nat) (e' g n : Int), 51 ≤ n → n ≤ 100000 → 8092 ≤ n + 1400 * f →
        K .ret [.num .i64 b, .boxv [.bool s, .dig [1, 2, 3] m, .num .i64 e], .num .i64 (Dy.ansK ⟨s, m, e⟩ % 4), .boxv [.bool (Dy.ansD ⟨s, m, e⟩ b).neg, .dig [3] (Dy.ansD ⟨s, m, e⟩ b).mag, .num .i64 (Dy.ansD ⟨s, m, e⟩ b).exp], .num .i64 0, .num .i64 (Dy.redN ⟨s, m, e⟩ b f n)] →
        ∃ j, iterN Tryd.prog (look tabR5) lamRed 2 84 keepRed (bodyN Tryd.f6 0) j [.num .i64 b, .boxv [.bool s, .dig [1, 2, 3] m, .num .i64 e], .num .i64 q, .boxv [.bool s', .dig [3] m', .num .i64 e'], .num .i64 g, .num .i64 n] K := by
      intro f
      induction f with
      | zero =>
        intro q s' m' e' g n n1 n2 n3 hK
        have hN : (if (8092 : Int) < n then (8092 : Int) else n) = ((8092 : Nat) : Int) := by split <;> omega
        have ho := Dy.quart_ok hx (n := 8092) (by decide) (by decide)
        have h5 := ho.2 (by decide)
        have h6 := h5.2 bb (by omega) (by omega)
        have h7 := ho.1 h5.1
        have h8 := h7.2.2.2 bb (by omega) h6.1 h6.2
        refine iterN_last ?_
        rw [vc_phase_Reduce_1, hN, h5.1]
        refine ⟨⟨hx, by decide, by decide⟩, ?_⟩
        simp only [cond_true]
        rintro _ rfl
        refine dpeel fun b3 l3 k3 d3 => dpeel fun b4 l4 k4 d4 => ?_
        rintro _ rfl
        refine cond_f rfl ?_
        rw [d3, d4]
        refine ⟨⟨h7.2.1, h7.2.2.1, b1, by omega⟩, ?_⟩
        rw [hbb, decide_eq_false h6.1, decide_eq_true h6.2]
        simp only [cond_false]
        refine dpeel fun b9 l9 k9 d9 => ?_
        rintro _ rfl
        refine cond_t rfl ?_
        rw [h8] at d9
        rw [h7.1]
        rw [hbb, ← d9] at hK
        exact hK
      | succ f ih =>
        intro q s' m' e' g n n1 n2 n3 hK
        obtain ⟨N, hN1, hN2, hN⟩ : ∃ N : Nat, 20 ≤ N ∧ N ≤ 8092 ∧ (if (8092 : Int) < n then (8092 : Int) else n) = (N : Int) := by
          refine ⟨(if (8092 : Int) < n then (8092 : Int) else n).toNat, ?_, ?_, ?_⟩ <;> split <;> omega
        have hmin : min n 8092 = (N : Int) := by rw [← hN]; split <;> omega
        have ho := Dy.quart_ok hx (n := N) hN1 hN2
        have hr : Dy.redN ⟨s, m, e⟩ b (f + 1) n = bif Dy.okB ⟨s, m, e⟩ b (min n 8092) then n else Dy.redN ⟨s, m, e⟩ b f (n + (n / 2 + 1400)) := rfl
        rw [hr, hmin] at hK
        cases hq : Dy.okB ⟨s, m, e⟩ b (N : Int) with
        | true =>
          rw [hq] at hK
          simp only [cond_true] at hK
          obtain ⟨h5, h6, h6'⟩ := Dy.okB_iff.1 hq
          have h7 := ho.1 h5
          rw [hbb] at h6'
          have h8 := h7.2.2.2 bb (by omega) h6 h6'
          refine iterN_last ?_
          rw [vc_phase_Reduce_1, hN, h5]
          refine ⟨⟨hx, by omega, by omega⟩, ?_⟩
          simp only [cond_true]
          rintro _ rfl
          refine dpeel fun b3 l3 k3 d3 => dpeel fun b4 l4 k4 d4 => ?_
          rintro _ rfl
          refine cond_f rfl ?_
          rw [d3, d4]
          refine ⟨⟨h7.2.1, h7.2.2.1, b1, by omega⟩, ?_⟩
          rw [hbb, decide_eq_false h6, decide_eq_true h6']
          simp only [cond_false]
          refine dpeel fun b9 l9 k9 d9 => ?_
          rintro _ rfl
          refine cond_t rfl ?_
          rw [h8] at d9
          rw [h7.1]
          rw [hbb, ← d9] at hK
          exact hK
        | false =>
          rw [hq] at hK
          simp only [cond_false] at hK
          have hlt : N < 5120 := by
            refine Decidable.byContradiction fun c => ?_
            have h5 := ho.2 (by omega)
            have h6 := h5.2 bb (by omega) (by omega)
            have : Dy.okB ⟨s, m, e⟩ b (N : Int) = true := Dy.okB_iff.2 ⟨h5.1, h6.1, by rw [hbb]; exact h6.2⟩
            rw [hq] at this
            cases this
          have hnN : n = N := by
            have := hN
            split at this <;> omega
          have ht : n.tdiv 2 = n / 2 := Int.tdiv_eq_ediv_of_nonneg (by omega)
          have hw : IntKind.i64.wrap (n + IntKind.i64.wrap (IntKind.i64.wrap (n.tdiv 2) + 1400)) = n + (n / 2 + 1400) := by
            rw [ht, wrap_i64 (n := n / 2) (by omega) (by omega), wrap_i64 (n := n / 2 + 1400) (by omega) (by omega), wrap_i64 (by omega) (by omega)]
          have next := fun (q : Int) (s' : Bool) (m' : List Nat) (e' g : Int) => ih q s' m' e' g (n + (n / 2 + 1400)) (by omega) (by omega) (by omega) hK
          obtain ⟨j, hj⟩ := next q s' m' e' g
          refine iterN_next j ?_
          rw [vc_phase_Reduce_1, hN, hw]
          refine ⟨⟨hx, by omega, by omega⟩, ?_⟩
          cases h5 : Dy.qOk (N : Int) ⟨s, m, e⟩ with
          | false =>
            rintro _ -
            refine dpeel fun b3 l3 k3 d3 => dpeel fun b4 l4 k4 d4 => ?_
            rintro _ rfl
            exact cond_t rfl hj
          | true =>
            have h7 := ho.1 h5
            simp only [cond_true]
            rintro _ -
            refine dpeel fun b3 l3 k3 d3 => dpeel fun b4 l4 k4 d4 => ?_
            rintro _ rfl
            refine cond_f rfl ?_
            rw [d3, d4]
            refine ⟨⟨h7.2.1, h7.2.2.1, b1, by omega⟩, dpeel fun b9 l9 k9 d9 => ?_⟩
            rintro _ rfl
            refine cond_f ?_ hj
            have hq2 := hq
            unfold Dy.okB at hq2
            rw [h5, Bool.true_and] at hq2
            exact hq2
    exact key 6 q s' m' e' g n n1 n2 (by omega) hK
  · cases h

theorem ok_phase_Reduce (args : List AV) (s : Spec) (h : sReduce args = some s) (hp : andO s.pre True) : Contract Tryd.prog Inv 6 args s.res := by
  unfold sReduce at h
  split at h
  · cases h
    rename_i s m e b
    have hb : b ≤ 1500 ∨ 6000 < b := hp.1
    refine contract_at false 84 lamRed ok_tabR5 Tryd.func6 (by kernel_rfl) rfl (loops1 (by kernel_rfl) (by kernel_rfl) loop_phase_Reduce) fun hok => ?_
    rw [vc_phase_Reduce]
    unfold Dy.redK Dy.redR
    refine cond_i (fun h => ?_) (fun h => ?_)
    · simp only [Bool.not_eq_true'] at h
      have hr : Dy.refuse ⟨s, m, e⟩ b = 2 := by unfold Dy.refuse; rw [h]; rfl
      rw [hr]
      rfl
    simp only [Bool.not_eq_false'] at h
    rw [if_pos h, if_pos h]
    refine cond_i (fun h1 => ?_) (fun h1 => ?_)
    · have h1 := of_decide_eq_true h1
      have hr : Dy.refuse ⟨s, m, e⟩ b = 2 := by unfold Dy.refuse; rw [h, decide_eq_false (by omega)]; rfl
      rw [hr]
      rfl
    have h1 := of_decide_eq_false h1
    have hm : (Dy.mayD ⟨s, m, e⟩ && decide (1 ≤ b)) = true := by rw [h, decide_eq_true (by omega)]; rfl
    refine cond_i (fun h2 => ?_) (fun h2 => ?_)
    · have h2 := of_decide_eq_true h2
      have hr : Dy.refuse ⟨s, m, e⟩ b = 3 := by unfold Dy.refuse; rw [if_pos hm, if_pos (.inl h2)]
      rw [hr]
      rfl
    have h2 := of_decide_eq_false h2
    refine cond_i (fun h3 => ?_) (fun h3 => ?_)
    · have h3 := of_decide_eq_true h3
      have hr : Dy.refuse ⟨s, m, e⟩ b = 3 := by unfold Dy.refuse; rw [if_pos hm, if_pos (.inr (by simp only; omega))]
      rw [hr]
      rfl
    have h3 := of_decide_eq_false h3
    have hn : ¬ (6000 < b ∨ 40 < (⟨s, m, e⟩ : Dy.Dyd).mag.length) := by
      rintro (c | c)
      · omega
      · simp only at c
        omega
    refine cond_i (fun h4 => ?_) (fun h4 => ?_)
    · have h4 := of_decide_eq_true h4
      have hr : Dy.refuse ⟨s, m, e⟩ b = 20 := by unfold Dy.refuse; rw [if_pos hm, if_neg hn, if_pos (by omega)]
      rw [hr]
      rfl
    have h4 := of_decide_eq_false h4
    have hr : Dy.refuse ⟨s, m, e⟩ b = 0 := by unfold Dy.refuse; rw [if_pos hm, if_neg hn, if_neg (by omega)]
    rw [hr, if_pos rfl, if_pos rfl]
    have hc := Dy.cutD_top h (by omega) (n := b) ⟨by omega, by omega⟩
    refine cond_i (fun h5 => ?_) (fun h5 => cond_i (fun h6 => ?_) (fun h6 => ?_))
    · have h5 := of_decide_eq_true h5
      rw [if_pos (.inl h5), if_pos (.inl h5), hc]
      refine dpeel fun b1 l1 k1 d1 => ?_
      rintro _ - _ rfl
      have d1 : Dy.Dyd.mk b1 l1 k1 = (Dy.cutR ⟨s, m, e⟩ b).1 := d1
      rw [avD_of d1]
    · have h6 := of_decide_eq_true h6
      rw [if_pos (.inr h6), if_pos (.inr h6), hc]
      refine dpeel fun b1 l1 k1 d1 => ?_
      rintro _ - _ rfl
      have d1 : Dy.Dyd.mk b1 l1 k1 = (Dy.cutR ⟨s, m, e⟩ b).1 := d1
      rw [avD_of d1]
    · have h5 := of_decide_eq_false h5
      have h6 := of_decide_eq_false h6
      have hno : ¬ (Dy.topD ⟨s, m, e⟩ < 0 ∨ Dy.signD ⟨s, m, e⟩ = 0) := fun c => c.elim h5 h6
      rw [if_neg hno, if_neg hno, wrap_i64 (n := Dy.topD ⟨s, m, e⟩ + b) (by omega) (by omega), wrap_i64 (by omega) (by omega)]
      have hm0 : m ≠ [] := fun c => h6 (by unfold Dy.signD; rw [if_pos c])
      refine ⟨⟨⟨h, hm0, by simp only; omega, by omega, by omega⟩, by omega, by omega, by omega, by omega⟩, ?_⟩
      rfl
  · cases h
theorem ok_tabR6 : PhiOk Tryd.prog Inv (look tabR6) := look_cons ok_tabR5 ok_phase_Reduce
end Go.AI

namespace Go.AI
open Go Go.RowKit Go.Proofs
set_option linter.unusedVariables false
def rTwo : List AV → Option Spec
  | [.num .i64 n] => some ⟨none, avD [0] (Dy.unitOf n)⟩
  | _ => none
def lRefusal : List AV → Option Spec
  | [.agg [.bool s, .dig [1] m, .num .i64 e], .num .i64 b] => some ⟨none, .num .i64 (Dy.refuse ⟨s, m, e⟩ b)⟩
  | _ => none
def lKnown17 : List AV → Option Spec
  | [] => some ⟨none, .bool true⟩
  | _ => none
def tabV0 : List (Nat × (List AV → Option Spec)) := (12, rTwo) :: (4, lRefusal) :: tabR6
def tabV1 : List (Nat × (List AV → Option Spec)) := (5, lKnown17) :: tabV0
end Go.AI

namespace Go.AI
open Go Go.RowKit Go.Proofs
set_option linter.unusedVariables false
set_option maxRecDepth 100000
set_option maxHeartbeats 0
theorem vc_law17_PhaseMirror (s : Bool) (m : List
  Nat) (e : Int) (b : Int) (Q : AV →
  Prop) : (evF Tryd.prog (look tabV1) (lam []) false Tryd.f3
  [AV.agg [AV.bool s, AV.dig [(1 : Nat)] m, AV.num IntKind.i64 e], AV.num IntKind.i64 b] Q) =
  (bif decide (b > (1500 : Int)) then Q (AV.bool true)
 else
  bif !decide (Dy.refuse (Dy.Dyd.mk s m e) b = (0 : Int)) then Q (AV.bool true)
  else
  (b ≤ (1500 : Int) ∨ (6000 : Int) < b) ∧
  ∀ (n1 : Int),
  n1 = Dy.redK (Dy.Dyd.mk s m e) b →
  dyF (Dy.redR (Dy.Dyd.mk s m e) b) fun b2 l3 n4 =>
  ∀ (n5 : Int),
  n5 = Dy.refuse (Dy.Dyd.mk s m e) b →
  ∀ (b6 : Bool),
  (b6 = if m = [] then s else !s) →
  ∀ (l7 : List Nat),
  l7 = m →
  ∀ (n8 : Int),
  n8 = e →
  (b ≤ (1500 : Int) ∨ (6000 : Int) < b) ∧
  ∀ (n9 : Int),
  n9 = Dy.redK (Dy.Dyd.mk b6 l7 n8) b →
  dyF (Dy.redR (Dy.Dyd.mk b6 l7 n8) b) fun b10 l11 n12 =>
  ∀ (n13 : Int),
  n13 = Dy.refuse (Dy.Dyd.mk b6 l7 n8) b →
  bif decide (n5 = (0 : Int)) then
  bif decide (n13 = (0 : Int)) then
  bif decide (n1 ≥ (0 : Int)) then
  bif decide (n1 < (4 : Int)) then
  bif
  decide
  ((IntKind.i64.wrap (n1 + n9)).tmod (4 : Int) = (0 : Int)) then
  ∀ (b14 : Bool),
  (b14 = if l3 = [] then b2 else !b2) →
  ∀ (l15 : List Nat),
  l15 = l3 →
  ∀ (n16 : Int),
  n16 = n4 →
  bif
  Dy.sameD (Dy.Dyd.mk b10 l11 n12)
  (Dy.Dyd.mk b14 l15 n16) then
  Q (AV.bool true)
  else Q (AV.bool false)
  else Q (AV.bool false)
  else Q (AV.bool false)
  else Q (AV.bool false)
  else Q (AV.bool false)
  else Q (AV.bool false)) := by kernel_rfl
end Go.AI

namespace Go.AI
open Go Go.RowKit Go.Proofs
set_option linter.unusedVariables false
set_option maxRecDepth 100000
set_option maxHeartbeats 0
theorem vc_ref2_Two (n : Int) (Q : AV →
  Prop) : (evF Tryd.prog (look tabR6) (lam []) false Tryd.f12 [AV.num IntKind.i64 n] Q) =
  (Q (AV.agg [AV.bool false, AV.dig [(0 : Nat)] [(1 : Nat)], AV.num IntKind.i64 n])) := by kernel_rfl
theorem vc_law17_refusal (s : Bool) (m : List
  Nat) (e : Int) (b : Int) (Q : AV →
  Prop) : (evF Tryd.prog (look tabR6) (lam []) false Tryd.f4
  [AV.agg [AV.bool s, AV.dig [(1 : Nat)] m, AV.num IntKind.i64 e], AV.num IntKind.i64 b] Q) =
  (bif !Dy.mayD (Dy.Dyd.mk s m e) then Q (AV.num IntKind.i64 (2 : Int))
 else
  bif decide (b < (1 : Int)) then Q (AV.num IntKind.i64 (2 : Int))
  else
  bif decide (b > (6000 : Int)) then Q (AV.num IntKind.i64 (3 : Int))
  else
  bif decide ((↑m.length : Int) > (40 : Int)) then Q (AV.num IntKind.i64 (3 : Int))
  else
  (Dy.dg (Dy.val m) = m ∧ m.length ≤ (1048576 : Nat) ∧ (-1099511627776 : Int) ≤ e ∧ e ≤ (1099511627776 : Int)) ∧
  bif decide (Dy.topD (Dy.Dyd.mk s m e) > (1100 : Int)) then Q (AV.num IntKind.i64 (20 : Int))
  else Q (AV.num IntKind.i64 (0 : Int))) := by kernel_rfl
theorem vc_law17_known (Q : AV → Prop) : (evF Tryd.prog (look tabV0) (lam []) false Tryd.f5 [] Q) =
  (dyF (Dy.intD (1 : Int)) fun b1 l2 n3 =>
  ((3 : Int) ≤ (1500 : Int) ∨ (6000 : Int) < (3 : Int)) ∧
  ∀ (n4 : Int),
  n4 = Dy.redK (Dy.Dyd.mk b1 l2 n3) (3 : Int) →
  dyF (Dy.redR (Dy.Dyd.mk b1 l2 n3) (3 : Int)) fun b5 l6 n7 =>
  ∀ (n8 : Int),
  n8 = Dy.refuse (Dy.Dyd.mk b1 l2 n3) (3 : Int) →
  bif decide (n4 = (1 : Int)) then
  dyF (Dy.unitOf (-1 : Int)) fun b9 l10 n11 =>
  ∀ (b12 : Bool),
  (b12 = if l10 = [] then b9 else !b9) →
  ∀ (l13 : List Nat),
  l13 = l10 →
  ∀ (n14 : Int),
  n14 = n11 →
  bif Dy.sameD (Dy.Dyd.mk b5 l6 n7) (Dy.Dyd.mk b12 l13 n14) then
  Q (AV.bool (decide (n8 = (0 : Int))))
  else Q (AV.bool false)
  else Q (AV.bool false)) := by kernel_rfl
end Go.AI

namespace Go.Dy
theorem formZ_other (z e : Int) : formZ (-z) e = negD (formZ z e) := by
  by_cases hz : z = 0
  · subst hz
    rfl
  · unfold formZ
    have h1 : z.natAbs ≠ 0 := by omega
    rw [Int.natAbs_neg, form_pos h1, form_pos h1]
    unfold negD
    have : dg (z.natAbs / 2 ^ tz z.natAbs) ≠ [] := fun e0 => by
      have h0 := dg_eq_nil.1 e0
      have h1 := div_tz_odd h1
      omega
    simp only [decide_eq_true this, Bool.and_true, Dyd.mk.injEq, and_true]
    by_cases c : z < 0
    · rw [decide_eq_true c, decide_eq_false (by omega)]; rfl
    · rw [decide_eq_false c, decide_eq_true (by omega)]; rfl
theorem may_negD {x : Dyd} (h : mayD x = true) : mayD (negD x) = true := Go.AI.mayD_neg h
theorem refuse_ok {x : Dyd} {b : Int} : refuse x b = 0 ↔ mayD x = true ∧ 1 ≤ b ∧ b ≤ 6000 ∧ x.mag.length ≤ 40 ∧ topD x ≤ 1100 := by
  unfold refuse
  by_cases h1 : (mayD x && decide (1 ≤ b)) = true
  · rw [if_pos h1]
    simp only [Bool.and_eq_true, decide_eq_true_eq] at h1
    by_cases h2 : 6000 < b ∨ 40 < x.mag.length
    · rw [if_pos h2]
      constructor
      · intro h; cases h
      · intro h; omega
    · rw [if_neg h2]
      by_cases h3 : 1100 < topD x
      · rw [if_pos h3]
        constructor
        · intro h; cases h
        · intro h; omega
      · rw [if_neg h3]
        exact ⟨fun _ => ⟨h1.1, h1.2, by omega, by omega, by omega⟩, fun _ => rfl⟩
  · rw [if_neg h1]
    simp only [Bool.and_eq_true, decide_eq_true_eq] at h1
    constructor
    · intro h; cases h
    · intro h; exact absurd ⟨h.1, h.2.1⟩ h1
theorem refuse_neg {x : Dyd} {b : Int} (h : refuse x b = 0) : refuse (negD x) b = 0 := by
  rw [refuse_ok] at h ⊢
  exact ⟨may_negD h.1, h.2⟩
theorem angle_neg {x : Dyd} (h : angle x) : angle (negD x) := ⟨may_negD h.1, h.2.1, h.2.2.1, h.2.2.2.1, h.2.2.2.2⟩
theorem angle_of {x : Dyd} {b : Int} (h : refuse x b = 0) (hn : ¬ (topD x < 0 ∨ signD x = 0)) : angle x := by
  rw [refuse_ok] at h
  have hm : x.mag ≠ [] := fun c => hn (.inr (by unfold signD; rw [if_pos c]))
  exact ⟨h.1, hm, h.2.2.2.1, by omega, h.2.2.2.2⟩
theorem near_other {X P : Int} (hP : 0 < P) (h : 2 * X - (2 * nearZ X P - 1) * P ≠ 0) : nearZ (-X) P = -nearZ X P := by
  have hn := nearZ_near (X := X) hP
  generalize nearZ X P = k at *
  obtain ⟨h1, h2⟩ := hn
  have e : (2 * k - 1) * P = 2 * (k * P) - P := by rw [Int.sub_mul, Int.one_mul, Int.mul_assoc]
  rw [e] at h
  refine nearZ_eq hP ?_ ?_
  · rw [Int.neg_mul]; omega
  · rw [Int.neg_mul]; omega
theorem near_tie {X P D k : Int} (hP : 0 < P) (hD : 0 < D) (h : 2 * X = (2 * k - 1) * P) : ((2 * k - 1).natAbs : Int) * P ≤ 2 * X.natAbs + D := by
  have h2 : (2 * X).natAbs = (2 * k - 1).natAbs * P.natAbs := by rw [h, Int.natAbs_mul]
  have h3 : (P.natAbs : Int) = P := by omega
  have h4 : ((2 * k - 1).natAbs : Int) * P = ((2 * X).natAbs : Int) := by rw [h2, Int.natCast_mul, h3]
  omega
theorem ansK_neg {x : Dyd} (hx : angle x) : ansK (negD x) = -ansK x := by
  unfold ansK
  obtain ⟨V, hV⟩ : ∃ V : Nat, vu = V := ⟨_, rfl⟩
  have hV5 : V = 500000 := by rw [← hV]; exact vu_eq
  rw [hV]
  clear hV
  have hq := quart_lo (V := V) (by rw [hV5]; unfold prec; omega)
  have D0 : (0 : Int) < 2 ^ V := Int.pow_pos (by decide)
  have P0 : 0 < quart V := by omega
  rw [at_negD]
  refine near_other P0 fun h => ?_
  generalize hk : nearZ (at_ x (-(V : Int))) (quart V) = k at *
  have hb := near_tie (X := at_ x (-(V : Int))) (k := k) P0 D0 (by omega)
  have hf := half_far hx (V := V) (by omega) (j := 2 * k - 1) (by omega) hb
  rw [h] at hf
  have hp := Nat.two_pow_pos (V - 4009)
  rw [show Int.natAbs 0 = 0 from rfl] at hf
  omega
theorem ansR_neg {x : Dyd} (hx : angle x) : ansR (negD x) = -ansR x := by
  unfold ansR
  rw [ansK_neg hx, at_negD, Int.neg_mul]
  omega
theorem ansD_neg {x : Dyd} (hx : angle x) {b : Nat} (hb : 1 ≤ b) : ansD (negD x) b = negD (ansD x b) := by
  unfold ansD
  rw [ansR_neg hx, cutR_cutV _ _ hb, cutR_cutV _ _ hb, cutV_neg, formZ_other]
theorem cutR_neg {x : Dyd} (h : mayD x = true) {b : Nat} (hb : 1 ≤ b) : (cutR (negD x) b).1 = negD (cutR x b).1 := by
  have he := mayD_exp h
  have hV : -(((-x.exp).toNat : Nat) : Int) ≤ x.exp := by omega
  have hV' : -(((-x.exp).toNat : Nat) : Int) ≤ (negD x).exp := hV
  rw [cut_form h hb hV, cut_form (may_negD h) hb hV', at_negD, cutV_neg, formZ_other]
theorem negD_negD {x : Dyd} (h : mayD x = true) : negD (negD x) = x := by
  obtain ⟨s, m, e⟩ := x
  unfold negD
  by_cases c : m = []
  · subst c
    have : s = false := by
      unfold mayD at h
      simp only [if_true, Bool.and_eq_true, Bool.not_eq_true'] at h
      exact h.2.1
    subst this
    rfl
  · simp only [decide_eq_true c, Bool.and_true, Bool.not_not]
theorem redK_range {x : Dyd} {b : Int} (h : refuse x b = 0) : 0 ≤ redK x b ∧ redK x b < 4 := by
  unfold redK
  rw [if_pos h]
  split <;> omega
theorem redK_neg {x : Dyd} {b : Int} (h : refuse x b = 0) : (redK x b + redK (negD x) b) % 4 = 0 := by
  unfold redK
  rw [if_pos h, if_pos (refuse_neg h)]
  have e : (topD (negD x) < 0 ∨ signD (negD x) = 0) ↔ (topD x < 0 ∨ signD x = 0) := by
    have h1 : topD (negD x) = topD x := rfl
    have h2 : signD (negD x) = 0 ↔ signD x = 0 := by
      unfold signD
      have : (negD x).mag = x.mag := rfl
      rw [this]
      by_cases c : x.mag = []
      · rw [if_pos c, if_pos c]
      · rw [if_neg c, if_neg c]
        constructor <;> intro h <;> split at h <;> cases h
    rw [h1, h2]
  by_cases c : topD x < 0 ∨ signD x = 0
  · rw [if_pos c, if_pos (e.2 c)]; rfl
  · rw [if_neg c, if_neg (fun d => c (e.1 d)), ansK_neg (angle_of h c)]
    omega
theorem redR_neg {x : Dyd} {b : Int} (h : refuse x b = 0) : redR (negD x) b = negD (redR x b) := by
  unfold redR
  rw [if_pos h, if_pos (refuse_neg h)]
  have e : (topD (negD x) < 0 ∨ signD (negD x) = 0) ↔ (topD x < 0 ∨ signD x = 0) := by
    have h1 : topD (negD x) = topD x := rfl
    have h2 : signD (negD x) = 0 ↔ signD x = 0 := by
      unfold signD
      have : (negD x).mag = x.mag := rfl
      rw [this]
      by_cases c : x.mag = []
      · rw [if_pos c, if_pos c]
      · rw [if_neg c, if_neg c]
        constructor <;> intro h <;> split at h <;> cases h
    rw [h1, h2]
  have hh := refuse_ok.1 h
  obtain ⟨bb, hbb⟩ : ∃ bb : Nat, b = (bb : Int) := ⟨b.toNat, by omega⟩
  subst hbb
  by_cases c : topD x < 0 ∨ signD x = 0
  · rw [if_pos c, if_pos (e.2 c), cutR_neg hh.1 (by omega)]
  · rw [if_neg c, if_neg (fun d => c (e.1 d)), ansD_neg (angle_of h c) (by omega)]
/-! 1 is one quarter, less a half and some -/
theorem pi_small : decide (4 * piN.toNat < 13 * 2 ^ prec) = true := by kernel_rfl
theorem quart_hi {V : Nat} (hV : prec + 1 ≤ V) : 8 * quart V < 13 * 2 ^ V := by
  have hr := of_decide_eq_true pi_small
  have key : ∀ q : Nat, 4 * piN.toNat < 13 * 2 ^ q → 4 * piN < (13 : Int) * 2 ^ q := fun q h => by
    have h2 := Int.ofNat_lt.2 h
    rw [Int.natCast_mul, piN_nat, Int.natCast_mul, pow_cast] at h2
    exact h2
  have h1 := key _ hr
  clear hr key
  unfold quart
  have e : (2 : Int) ^ V = 2 ^ prec * 2 * 2 ^ (V - (prec + 1)) := by
    rw [← Int.pow_succ, ← Int.pow_add]
    have he : prec + 1 + (V - (prec + 1)) = V := by omega
    rw [he]
  have hp : (0 : Int) < 2 ^ (V - (prec + 1)) := Int.pow_pos (by decide)
  rw [e]
  generalize (2 : Int) ^ (V - (prec + 1)) = w at *
  generalize (2 : Int) ^ prec = M at *
  rw [← Int.mul_assoc, ← Int.mul_assoc]
  exact Int.mul_lt_mul_of_pos_right (by omega) hp
def oneD : Dyd := ⟨false, [1], 0⟩
theorem angle_one : angle oneD := by
  refine ⟨by kernel_rfl, by decide, by decide, ?_, ?_⟩
  · have : topD oneD = 1 := by kernel_rfl
    omega
  · have : topD oneD = 1 := by kernel_rfl
    omega
theorem one_at {x : Dyd} (hx : x = oneD) (V : Nat) : at_ x (-(V : Int)) = 2 ^ V := by
  unfold at_
  have h1 : x.int = 1 := by rw [hx]; rfl
  have h2 : (x.exp - -(V : Int)).toNat = V := by
    have : x.exp = 0 := by rw [hx]; rfl
    rw [this]
    omega
  rw [h1, h2, Int.one_mul]
theorem one_cut {R H : Int} {V : Nat} (hV : 4 ≤ V) (hH : (2 : Int) ^ V = 8 * H) (h1 : R < -(4 * H)) (h2 : -(5 * H) < R) (hH2 : (2 : Int) ^ (V - 3) = H) : cutV R 3 = -(4 * H) := by
  have H0 : 0 < H := by rw [← hH2]; exact Int.pow_pos (by decide)
  obtain ⟨h, hh⟩ : ∃ h : Nat, H = (h : Int) := ⟨H.toNat, by omega⟩
  subst hh
  have e1 : (2 : Nat) ^ (V - 3) = h := by
    have := pow_cast (V - 3)
    omega
  have e2 : (2 : Nat) ^ V = 8 * h := by
    have := pow_cast V
    omega
  have e3 : (2 : Nat) ^ (V - 1) = 4 * h := by
    rw [show V - 1 = V - 3 + 2 by omega, Nat.pow_add, e1]
    omega
  have b1 : V - 1 < bl R.natAbs := lt_bl.2 (by rw [e3]; omega)
  have b2 : bl R.natAbs ≤ V := bl_le.2 (by rw [e2]; omega)
  have b3 : bl R.natAbs = V := by omega
  unfold cutV cutN
  rw [b3, e1, decide_eq_true (show R < 0 by omega)]
  have hq : R.natAbs / h = 4 := by
    refine Nat.div_eq_of_lt_le ?_ ?_ <;> omega
  rw [hq]
  unfold sgn
  simp only [if_true]
  omega
theorem one_quart_V {x : Dyd} (hx : x = oneD) {V : Nat} (hV : 4 ≤ V) (hq : 3 * 2 ^ V < 2 * quart V) (hr : 8 * quart V < 13 * 2 ^ V) :
    nearZ (at_ x (-(V : Int))) (quart V) = 1 ∧ cutV (at_ x (-(V : Int)) - 1 * quart V) 3 = -1 * 2 ^ (V - 1) := by
  have D0 : (0 : Int) < 2 ^ V := Int.pow_pos (by decide)
  rw [one_at hx]
  generalize quart V = P at *
  refine ⟨nearZ_eq (by omega) (by omega) (by omega), ?_⟩
  have e3 : (2 : Int) ^ V = 8 * 2 ^ (V - 3) := by
    have h := Int.pow_add 2 3 (V - 3)
    rw [show 3 + (V - 3) = V by omega, show (2 : Int) ^ 3 = 8 from rfl] at h
    exact h
  have e4 : (2 : Int) ^ (V - 1) = 4 * 2 ^ (V - 3) := by
    have h := Int.pow_add 2 2 (V - 3)
    rw [show 2 + (V - 3) = V - 1 by omega, show (2 : Int) ^ 2 = 4 from rfl] at h
    exact h
  have hc := one_cut (R := 2 ^ V - P) hV e3 (by omega) (by omega) rfl
  rw [Int.one_mul, hc, e4]
  omega
theorem half_other : formZ (-1) (-1) = negD (unitOf (-1)) := by
  unfold formZ
  rw [form_odd (by decide)]
  rfl
theorem one_quart {x : Dyd} (hx : x = oneD) : ansK x = 1 ∧ ansD x (3 : Nat) = negD (unitOf (-1)) := by
  unfold ansD ansR ansK
  obtain ⟨V, hV⟩ : ∃ V : Nat, vu = V := ⟨_, rfl⟩
  have hV5 : V = 500000 := by rw [← hV]; exact vu_eq
  rw [hV]
  clear hV
  have hq := quart_lo (V := V) (by rw [hV5]; unfold prec; omega)
  have hr := quart_hi (V := V) (by rw [hV5]; unfold prec; omega)
  have h4 : 4 ≤ V := by omega
  clear hV5
  have h := one_quart_V hx h4 hq hr
  rw [h.1]
  refine ⟨rfl, ?_⟩
  rw [cutR_cutV _ _ (b := 3) (by decide), h.2, formZ_mul, show -(V : Int) + ((V - 1 : Nat) : Int) = -1 by omega]
  exact half_other
theorem redK_one {x : Dyd} (hx : x = oneD) : refuse x 3 = 0 ∧ redK x 3 = 1 ∧ redR x 3 = negD (unitOf (-1)) := by
  have h1 : topD x = 1 := by rw [hx]; kernel_rfl
  have h2 : signD x = 1 := by rw [hx]; kernel_rfl
  have h0 : refuse x 3 = 0 := by rw [hx]; kernel_rfl
  have hn : ¬ (topD x < 0 ∨ signD x = 0) := by omega
  have h := one_quart hx
  refine ⟨h0, ?_, ?_⟩
  · unfold redK
    rw [if_pos h0, if_neg hn, h.1]
    rfl
  · unfold redR
    rw [if_pos h0, if_neg hn]
    exact h.2
end Go.Dy

namespace Go.Dy
theorem int_one : intD 1 = oneD := by
  unfold intD formZ
  rw [form_odd (by decide)]
  rfl
theorem neg_parts {d : Dyd} : Dyd.mk (if d.mag = [] then d.neg else !d.neg) d.mag d.exp = negD d ∨ d.mag = [] := by
  by_cases h : d.mag = []
  · exact .inr h
  · refine .inl ?_
    unfold negD
    rw [if_neg h]
    simp only [decide_eq_true h, Bool.and_true, ne_eq]
end Go.Dy
namespace Go.AI
open Go Go.RowKit Go.Proofs
set_option linter.unusedVariables false
set_option maxRecDepth 100000
set_option maxHeartbeats 1000000
theorem ok_ref2_Two (args : List AV) (s : Spec) (h : rTwo args = some s) (hp : andO s.pre True) : Contract Tryd.prog Inv 12 args s.res := by
  unfold rTwo at h
  split at h
  · cases h
    rename_i n
    refine contract0 false ok_tabR6 Tryd.func12 (by kernel_rfl) (by kernel_rfl) fun hok => ?_
    rw [vc_ref2_Two]
    rfl
  · cases h
theorem ok_law17_refusal (args : List AV) (s : Spec) (h : lRefusal args = some s) (hp : andO s.pre True) : Contract Tryd.prog Inv 4 args s.res := by
  unfold lRefusal at h
  split at h
  · cases h
    rename_i s m e b
    refine contract0 false ok_tabR6 Tryd.func4 (by kernel_rfl) (by kernel_rfl) fun hok => ?_
    rw [vc_law17_refusal]
    refine cond_i (fun h => ?_) (fun h => ?_)
    · simp only [Bool.not_eq_true'] at h
      have hr : Dy.refuse ⟨s, m, e⟩ b = 2 := by unfold Dy.refuse; rw [h]; rfl
      rw [hr]
    simp only [Bool.not_eq_false'] at h
    refine cond_i (fun h1 => ?_) (fun h1 => ?_)
    · have h1 := of_decide_eq_true h1
      have hr : Dy.refuse ⟨s, m, e⟩ b = 2 := by unfold Dy.refuse; rw [h, decide_eq_false (by omega)]; rfl
      rw [hr]
    have h1 := of_decide_eq_false h1
    have hm : (Dy.mayD ⟨s, m, e⟩ && decide (1 ≤ b)) = true := by rw [h, decide_eq_true (by omega)]; rfl
    refine cond_i (fun h2 => ?_) (fun h2 => ?_)
    · have h2 := of_decide_eq_true h2
      have hr : Dy.refuse ⟨s, m, e⟩ b = 3 := by unfold Dy.refuse; rw [if_pos hm, if_pos (.inl h2)]
      rw [hr]
    have h2 := of_decide_eq_false h2
    refine cond_i (fun h3 => ?_) (fun h3 => ?_)
    · have h3 := of_decide_eq_true h3
      have hr : Dy.refuse ⟨s, m, e⟩ b = 3 := by unfold Dy.refuse; rw [if_pos hm, if_pos (.inr (by simp only; omega))]
      rw [hr]
    have h3 := of_decide_eq_false h3
    have hn : ¬ (6000 < b ∨ 40 < (⟨s, m, e⟩ : Dy.Dyd).mag.length) := by
      rintro (c | c)
      · omega
      · simp only at c
        omega
    have hx := Dy.mayD_exp h
    refine ⟨⟨Dy.may_dg (Dy.mayD_may h), by omega, by omega, by omega⟩, ?_⟩
    refine cond_i (fun h4 => ?_) (fun h4 => ?_)
    · have h4 := of_decide_eq_true h4
      have hr : Dy.refuse ⟨s, m, e⟩ b = 20 := by unfold Dy.refuse; rw [if_pos hm, if_neg hn, if_pos (by omega)]
      rw [hr]
    · have h4 := of_decide_eq_false h4
      have hr : Dy.refuse ⟨s, m, e⟩ b = 0 := by unfold Dy.refuse; rw [if_pos hm, if_neg hn, if_neg (by omega)]
      rw [hr]
  · cases h
theorem ok_tabV0 : PhiOk Tryd.prog Inv (look tabV0) := look_cons (look_cons ok_tabR6 ok_law17_refusal) ok_ref2_Two
theorem ok_law17_known (args : List AV) (s : Spec) (h : lKnown17 args = some s) (hp : andO s.pre True) : Contract Tryd.prog Inv 5 args s.res := by
  unfold lKnown17 at h
  split at h
  · cases h
    refine contract0 false ok_tabV0 Tryd.func5 (by kernel_rfl) (by kernel_rfl) fun hok => ?_
    rw [vc_law17_known]
    refine dpeel fun b1 l2 n3 d1 => ⟨by decide, ?_⟩
    rw [Dy.int_one] at d1
    obtain ⟨h0, hk, hr⟩ := Dy.redK_one d1
    intro n4 e4
    rw [hk] at e4
    refine dpeel fun b5 l6 n7 d5 => ?_
    rw [hr] at d5
    intro n8 e8
    rw [h0] at e8
    subst e4 e8
    refine cond_t rfl ?_
    rintro _ rfl _ rfl _ rfl _ rfl _ rfl _ rfl
    refine cond_t ?_ rfl
    rw [d5]
    rfl
  · cases h
theorem ok_tabV1 : PhiOk Tryd.prog Inv (look tabV1) := look_cons ok_tabV0 ok_law17_known
end Go.AI

namespace Go.Dy
theorem neg_mk {b : Bool} {l : List Nat} {n : Int} {d : Dyd} (h : Dyd.mk b l n = d) (hp : d.mag = [] → d.neg = false) : Dyd.mk (if l = [] then b else !b) l n = negD d := by
  subst h
  unfold negD
  by_cases c : l = []
  · have hb : b = false := hp c
    subst hb c
    rfl
  · rw [if_neg c]
    simp only [decide_eq_true c, Bool.and_true, ne_eq]
theorem formZ_plain (z e : Int) : (formZ z e).mag = [] → (formZ z e).neg = false := by
  by_cases hz : z = 0
  · subst hz
    intro _
    rfl
  · intro h
    unfold formZ at h
    have h1 : z.natAbs ≠ 0 := by omega
    rw [form_pos h1] at h
    have h0 := dg_eq_nil.1 h
    have h1 := div_tz_odd h1
    omega
theorem redR_plain {x : Dyd} {b : Int} (h : refuse x b = 0) : (redR x b).mag = [] → (redR x b).neg = false := by
  have hh := refuse_ok.1 h
  obtain ⟨bb, hbb⟩ : ∃ bb : Nat, b = (bb : Int) := ⟨b.toNat, by omega⟩
  subst hbb
  unfold redR
  rw [if_pos h]
  by_cases c : topD x < 0 ∨ signD x = 0
  · rw [if_pos c]
    have hV : -(((-x.exp).toNat : Nat) : Int) ≤ x.exp := by omega
    rw [cut_form hh.1 (by omega) hV]
    exact formZ_plain _ _
  · rw [if_neg c]
    unfold ansD
    rw [cutR_cutV _ _ (by omega)]
    exact formZ_plain _ _
end Go.Dy
namespace Go.AI
open Go Go.RowKit Go.Proofs
set_option linter.unusedVariables false
set_option maxRecDepth 100000
set_option maxHeartbeats 1000000
theorem ok_law_PhaseMirror (s : Bool) (m : List Nat) (e b : Int) : Contract Tryd.prog Inv 3 [.agg [.bool s, .dig [1] m, .num .i64 e], .num .i64 b] (.bool true) := by
  refine contract0 false ok_tabV1 Tryd.func3 (by kernel_rfl) (by kernel_rfl) fun hok => ?_
  rw [vc_law17_PhaseMirror]
  refine cond_i (fun _ => rfl) (fun h1 => cond_i (fun _ => rfl) (fun h2 => ?_))
  have h1 := of_decide_eq_false h1
  simp only [Bool.not_eq_false', decide_eq_true_eq] at h2
  have hh := Dy.refuse_ok.1 h2
  have hb : b ≤ 1500 ∨ 6000 < b := by omega
  refine ⟨hb, ?_⟩
  intro n1 e1
  refine dpeel fun b2 l3 n4 d2 => ?_
  intro n5 e5 b6 e6 l7 e7 n8 e8
  subst e6 e7 e8
  have hn : Dy.Dyd.mk (if l7 = [] then s else !s) l7 n8 = Dy.negD ⟨s, l7, n8⟩ := Dy.neg_mk rfl fun h => by
    have hm := hh.1
    simp only at h
    subst h
    unfold Dy.mayD at hm
    simp only [if_true, Bool.and_eq_true, Bool.not_eq_true'] at hm
    exact hm.2.1
  rw [hn]
  refine ⟨hb, ?_⟩
  intro n9 e9
  refine dpeel fun b10 l11 n12 d10 => ?_
  intro n13 e13
  rw [h2] at e5
  rw [Dy.refuse_neg h2] at e13
  have r1 := Dy.redK_range h2
  have r2 := Dy.redK_range (Dy.refuse_neg h2)
  have hk := Dy.redK_neg h2
  rw [← e1] at r1 hk
  rw [← e9] at r2 hk
  rw [Dy.redR_neg h2] at d10
  refine cond_t (decide_eq_true e5) (cond_t (decide_eq_true e13) (cond_t (decide_eq_true (by omega)) (cond_t (decide_eq_true r1.2) (cond_t (decide_eq_true ?_) ?_))))
  · rw [wrap_i64 (by omega) (by omega), Int.tmod_eq_emod_of_nonneg (by omega)]
    exact hk
  · rintro _ rfl _ rfl _ rfl
    refine cond_t ?_ rfl
    rw [Dy.neg_mk d2 (Dy.redR_plain h2), d10]
    unfold Dy.sameD
    simp
end Go.AI
