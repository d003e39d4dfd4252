/- My texts AIspanv, AIspan1, AVarc, AIarc, AIpi0, AIpi1, AIpi3, AIpi2, AIpi4, AIarc2, AIspan2, AIspecS, AIpiq, AIquav, AIpi5, in one. -/
import Derived.Test.YtppdoggngcpcpaaDoorK10
import Derived.RowKit2
namespace Go.Dy
/-- a whole number over another, rounded down, or up -/
def rndQ (z D : Int) (high : Bool) : Int := if high then -((-z) / D) else z / D
theorem rndQ_low {z D : Int} (hD : 0 < D) : rndQ z D false * D ≤ z ∧ z < rndQ z D false * D + D := by
  have h1 := Int.mul_ediv_add_emod z D
  have h2 := Int.emod_nonneg z (Int.ne_of_gt hD)
  have h3 := Int.emod_lt_of_pos z hD
  have e : rndQ z D false = z / D := rfl
  rw [e]
  rw [Int.mul_comm] at h1
  omega
theorem rndQ_high {z D : Int} (hD : 0 < D) : z ≤ rndQ z D true * D ∧ rndQ z D true * D < z + D := by
  have h1 := Int.mul_ediv_add_emod (-z) D
  have h2 := Int.emod_nonneg (-z) (Int.ne_of_gt hD)
  have h3 := Int.emod_lt_of_pos (-z) hD
  have e : rndQ z D true = -((-z) / D) := rfl
  rw [e, Int.neg_mul]
  rw [Int.mul_comm] at h1
  omega
theorem rndQ_one (z : Int) (high : Bool) : rndQ z 1 high = z := by
  unfold rndQ
  cases high <;> simp
theorem rndQ_zero (D : Int) (high : Bool) : rndQ 0 D high = 0 := by
  unfold rndQ
  cases high <;> simp
theorem rndQ_sgn (s : Bool) (M : Nat) {D : Nat} (hD : 0 < D) (high : Bool) :
    rndQ (sgn s M) (D : Int) high = if (decide (M % D ≠ 0) && (s != high)) = true then sgn s (M / D) + (if high then 1 else -1) else sgn s (M / D) := by
  have h1 := Nat.div_add_mod M D
  have h2 := Nat.mod_lt M hD
  generalize hq : M / D = q at *
  generalize hr : M % D = r at *
  have hDi : (0 : Int) < D := by omega
  have key : ∀ {x y : Int}, y * D ≤ x → x < (y + 1) * D → x / D = y := fun {x y} k1 k2 => ediv_eq hDi k1 k2
  have hM : (M : Int) = D * q + r := by rw [← h1]; simp
  have hneg : ¬ r = 0 → -(M : Int) / D = -(q : Int) - 1 := fun hr0 => key (by rw [hM, Int.sub_mul, Int.neg_mul, Int.mul_comm (q : Int)]; omega) (by rw [hM, show -(q : Int) - 1 + 1 = -(q : Int) by omega, Int.neg_mul, Int.mul_comm (q : Int)]; omega)
  have hneg0 : r = 0 → -(M : Int) / D = -(q : Int) := fun hr0 => key (by rw [hM, Int.neg_mul, Int.mul_comm (q : Int)]; omega) (by rw [hM, Int.add_mul, Int.neg_mul, Int.mul_comm (q : Int)]; omega)
  have hpos : (M : Int) / D = q := key (by rw [hM, Int.mul_comm (q : Int)]; omega) (by rw [hM, Int.add_mul, Int.mul_comm (q : Int)]; omega)
  unfold rndQ sgn
  by_cases c : r = 0
  · rw [decide_eq_false (by simpa using c)]
    cases s <;> cases high <;> simp [hpos, hneg0 c]
  · rw [decide_eq_true c]
    cases s <;> cases high <;> simp [hpos, hneg c] <;> omega
theorem unit_at (u v : Int) (h : v ≤ u) : at_ (unitOf u) v = 2 ^ (u - v).toNat := by
  unfold unitOf
  rw [at_mk]
  simp [sgn, val]
theorem exp_formZ {z e v : Int} (h1 : v ≤ e) (h2 : v ≤ 0) : v ≤ (formZ z e).exp := exp_form h1 h2
theorem exp_formZ_ne {z e : Int} (h : z ≠ 0) : e ≤ (formZ z e).exp := exp_form_pos (by omega)
theorem add_unit {z u : Int} (h : z ≠ 0) (high : Bool) : (if high = true then addD (formZ z u) (unitOf u) else subD (formZ z u) (unitOf u)) = formZ (z + (if high then 1 else -1)) u := by
  have h1 : at_ (unitOf u) u = 1 := by rw [unit_at u u (Int.le_refl _), Int.sub_self]; rfl
  cases high
  · simp only [Bool.false_eq_true, if_false]
    unfold subD
    rw [addD_at (u := u) (exp_formZ_ne h) (by show u ≤ u; omega), at_formZ_self, at_negD, h1]
  · simp only [if_true]
    rw [addD_at (exp_formZ_ne h) (by show u ≤ u; omega), at_formZ_self, h1]
theorem cutR_formZ (z e n : Int) (hn : 1 ≤ n) : cutR (formZ z e) n = (form (decide (z < 0)) (z.natAbs / 2 ^ ((bl z.natAbs : Int) - n).toNat) (e + (((bl z.natAbs : Int) - n).toNat : Int)), decide (z.natAbs % 2 ^ ((bl z.natAbs : Int) - n).toNat ≠ 0)) := cutR_form _ _ _ _ hn
theorem top_formZ {z e : Int} (h : z ≠ 0) : topD (formZ z e) = e + bl z.natAbs := top_form (by omega)
theorem form_sgn (s : Bool) (n : Nat) (e : Int) : form s n e = formZ (sgn s n) e := (formZ_sgn s n e).symm
/-- what span.end answers -/
theorem endD_formZ (z e n : Int) (hn : 1 ≤ n) (high : Bool) : endD (formZ z e) n high = formZ (rndQ z (2 ^ ((bl z.natAbs : Int) - n).toNat) high) (e + (((bl z.natAbs : Int) - n).toNat : Int)) := by
  unfold endD
  rw [cutR_formZ z e n hn]
  obtain ⟨t, ht⟩ : ∃ t : Nat, ((bl z.natAbs : Int) - n).toNat = t := ⟨_, rfl⟩
  rw [ht]
  by_cases h0 : z = 0
  · subst h0
    have : (0 : Int).natAbs = 0 := rfl
    rw [this, Nat.zero_div, Nat.zero_mod, rndQ_zero, formZ_zero, form_zero]
    rfl
  have hz := sgn_natAbs z
  have hp : (0 : Nat) < 2 ^ t := Nat.two_pow_pos t
  have hr := rndQ_sgn (decide (z < 0)) z.natAbs hp high
  rw [← hz, Int.natCast_pow] at hr
  have hr : rndQ z (2 ^ t) high = _ := hr
  rw [hr]
  have hM : z.natAbs ≠ 0 := by omega
  have hneg : (formZ z e).neg = decide (z < 0) := by unfold formZ; rw [form_pos hM]
  unfold stepD
  simp only
  rw [hneg]
  by_cases c : (decide (z.natAbs % 2 ^ t ≠ 0) && (decide (z < 0) != high)) = true
  · rw [if_pos c, if_pos c]
    have c1 := of_decide_eq_true (Bool.and_eq_true _ _ ▸ c : _ ∧ _).1
    have ht0 : t ≠ 0 := fun e => by rw [e, Nat.pow_zero, Nat.mod_one] at c1; exact c1 rfl
    have hu : topD (formZ z e) - n = e + (t : Int) := by rw [top_formZ h0]; omega
    have hbq := bl_div_two_pow z.natAbs t
    have hq : z.natAbs / 2 ^ t ≠ 0 := fun e => by rw [e, bl_zero] at hbq; omega
    rw [hu, form_sgn, add_unit]
    unfold sgn
    split <;> omega
  · rw [if_neg c, if_neg c, form_sgn]
theorem quoE_formZ {s : Bool} {m : List Nat} {e : Int} {m' : List Nat} {e' n : Int} (ha : mayD ⟨s, m, e⟩ = true) (hb : mayD ⟨false, m', e'⟩ = true) (h0 : m' ≠ []) (hn : 1 ≤ n) :
    ∃ S t : Nat, (val m ≠ 0 → 2 ^ (n.toNat - 1) * (val m' * 2 ^ t) ≤ val m * 2 ^ S) ∧ (S : Int) ≤ n + 1 + bl (val m') ∧ t ≤ bl (val m * 2 ^ S) ∧ bl (val m * 2 ^ S / (val m' * 2 ^ t)) ≤ n.toNat ∧
      ∀ high, quoE ⟨s, m, e⟩ ⟨false, m', e'⟩ n high = formZ (rndQ (sgn s (val m * 2 ^ S)) ((val m' * 2 ^ t : Nat) : Int) high) (e - e' - S + t) := by
  have hN := val_ne (mayD_may hb) h0
  obtain ⟨S, hS⟩ : ∃ S : Nat, quoS (val m) (val m') n = S := ⟨_, rfl⟩
  obtain ⟨t, ht⟩ : ∃ t : Nat, ((bl (val m * 2 ^ S / val m') : Int) - n).toNat = t := ⟨_, rfl⟩
  have hSv : quoS (val m) (val m') n = (n + 1 + (bl (val m') : Int) - (bl (val m) : Int)).toNat := rfl
  have hNp : 0 < val m' := by omega
  have hp := Nat.two_pow_pos t
  have hbq := bl_mono (Nat.div_le_self (val m * 2 ^ S) (val m'))
  refine ⟨S, t, fun hM => ?_, by omega, by omega, ?_, fun high => ?_⟩
  · -- enough bits
    have hX0 : val m * 2 ^ S ≠ 0 := Nat.mul_ne_zero hM (Nat.pos_iff_ne_zero.1 (Nat.two_pow_pos S))
    have hbX : bl (val m * 2 ^ S) = bl (val m) + S := bl_mul_two_pow hM S
    have hQ2 : 2 ^ n.toNat ≤ val m * 2 ^ S / val m' := by
      rw [Nat.le_div_iff_mul_le hNp]
      have h1 := lt_two_bl (val m')
      have h2 := two_bl_le hX0
      have h3 : 2 ^ n.toNat * val m' ≤ 2 ^ n.toNat * 2 ^ bl (val m') := Nat.mul_le_mul_left _ (Nat.le_of_lt h1)
      rw [← Nat.pow_add] at h3
      have h4 : 2 ^ (n.toNat + bl (val m')) ≤ 2 ^ (bl (val m * 2 ^ S) - 1) := Nat.pow_le_pow_right (by decide) (by omega)
      omega
    have hlb := lt_bl.2 hQ2
    have hQ0 : val m * 2 ^ S / val m' ≠ 0 := fun e => by rw [e, bl_zero] at hlb; omega
    have h5 := two_bl_le hQ0
    have h6 : 2 ^ (n.toNat - 1) * 2 ^ t ≤ val m * 2 ^ S / val m' := by
      rw [← Nat.pow_add]
      exact Nat.le_trans (Nat.pow_le_pow_right (by decide) (by omega)) h5
    have h7 := (Nat.le_div_iff_mul_le hNp).1 h6
    rwa [Nat.mul_assoc, Nat.mul_comm (2 ^ t)] at h7
  · rw [← Nat.div_div_eq_div_mul, bl_div_two_pow]
    omega
  · unfold quoE quoF
    simp only
    by_cases hm : m = []
    · subst hm
      rw [if_pos rfl]
      have : sgn s (val ([] : List Nat) * 2 ^ S) = 0 := by rw [show val ([] : List Nat) = 0 from rfl, Nat.zero_mul, sgn_zero]
      rw [this, rndQ_zero, formZ_zero]
      rfl
    rw [if_neg hm, hS, cutR_form _ _ _ _ hn, ht]
    simp only
    have hM := val_ne (mayD_may ha) hm
    have hs : (s != false) = s := by cases s <;> rfl
    rw [hs]
    have hX0 : val m * 2 ^ S ≠ 0 := Nat.mul_ne_zero hM (Nat.pos_iff_ne_zero.1 (Nat.two_pow_pos S))
    have hbX : bl (val m * 2 ^ S) = bl (val m) + S := bl_mul_two_pow hM S
    have hQ2 : 2 ^ n.toNat ≤ val m * 2 ^ S / val m' := by
      rw [Nat.le_div_iff_mul_le hNp]
      have h1 := lt_two_bl (val m')
      have h2 := two_bl_le hX0
      have h3 : 2 ^ n.toNat * val m' ≤ 2 ^ n.toNat * 2 ^ bl (val m') := Nat.mul_le_mul_left _ (Nat.le_of_lt h1)
      rw [← Nat.pow_add] at h3
      have h4 : 2 ^ (n.toNat + bl (val m')) ≤ 2 ^ (bl (val m * 2 ^ S) - 1) := Nat.pow_le_pow_right (by decide) (by omega)
      omega
    have hlb := lt_bl.2 hQ2
    have hbW := bl_div_two_pow (val m * 2 ^ S / val m') t
    have hW0 : val m * 2 ^ S / val m' / 2 ^ t ≠ 0 := fun e => by rw [e, bl_zero] at hbW; omega
    have hdiv : val m * 2 ^ S / val m' / 2 ^ t = val m * 2 ^ S / (val m' * 2 ^ t) := Nat.div_div_eq_div_mul _ _ _
    have hlost : (decide (val m * 2 ^ S / val m' % 2 ^ t ≠ 0) || decide (val m * 2 ^ S % val m' ≠ 0)) = decide (val m * 2 ^ S % (val m' * 2 ^ t) ≠ 0) := by
      rw [Nat.mod_mul, Bool.eq_iff_iff]
      simp only [Bool.or_eq_true, decide_eq_true_eq, ne_eq, Nat.add_eq_zero_iff, Nat.mul_eq_zero]
      constructor
      · rintro (h | h) ⟨h1, h2 | h2⟩
        · omega
        · exact h h2
        · exact h h1
        · exact h h1
      · intro h
        by_cases c : val m * 2 ^ S % val m' = 0
        · exact .inl fun h2 => h ⟨c, .inr h2⟩
        · exact .inr c
    rw [hlost]
    have hr := rndQ_sgn s (val m * 2 ^ S) (Nat.mul_pos hNp hp) high
    rw [hr]
    have hneg : (form s (val m * 2 ^ S / val m' / 2 ^ t) (e - e' - ↑S + ↑t)).neg = s := by rw [form_pos hW0]
    unfold stepD
    rw [hneg]
    by_cases c : (decide (val m * 2 ^ S % (val m' * 2 ^ t) ≠ 0) && (s != high)) = true
    · rw [if_pos c, if_pos c, top_form hW0, hbW, show e - e' - (S : Int) + (t : Int) + ((bl (val m * 2 ^ S / val m') - t : Nat) : Int) - n = e - e' - S + t by omega, form_sgn, add_unit, hdiv]
      unfold sgn
      split <;> omega
    · rw [if_neg c, if_neg c, form_sgn, hdiv]
/-! sizes -/
theorem rndQ_abs (z : Int) {D : Nat} (hD : 0 < D) (high : Bool) : (rndQ z D high).natAbs ≤ z.natAbs / D + 1 := by
  have h := rndQ_sgn (decide (z < 0)) z.natAbs hD high
  rw [← sgn_natAbs] at h
  rw [h]
  generalize z.natAbs / D = q
  unfold sgn
  split <;> split <;> (try split) <;> omega
theorem formZ_fit {z e : Int} {L E : Nat} (hb : bl z.natAbs ≤ L) (h1 : -(E : Int) ≤ e) (h2 : e + (L : Int) ≤ E) (hL : L ≤ 131072) (hE : E ≤ 16777216) : Fit (formZ z e) L E := (fit_formZ hb h1 (by omega) hL hE).1
theorem self_formZ {d : Dyd} (h : mayD d = true) : d = formZ d.int d.exp := by
  obtain ⟨s, m, e⟩ := d
  exact (formZ_self h).symm
theorem int_bl (d : Dyd) : bl d.int.natAbs = bl (val d.mag) := by rw [Dyd.int_eq, natAbs_sgn]
theorem end_fit {d : Dyd} {L E : Nat} (h : Fit d L E) {n : Int} (hn : 1 ≤ n ∧ n ≤ 8192) (hE : E + L + 8194 ≤ 16777216) (high : Bool) : Fit (endD d n high) (n.toNat + 1) (E + L + 8194) := by
  have hb := h.bits
  have h1 := h.lo
  have h2 := h.hi
  rw [self_formZ h.may, endD_formZ _ _ _ hn.1, int_bl]
  obtain ⟨t, ht⟩ : ∃ t : Nat, ((bl (val d.mag) : Int) - n).toNat = t := ⟨_, rfl⟩
  rw [ht]
  have hp := Nat.two_pow_pos t
  have ha := rndQ_abs d.int hp high
  rw [Int.natCast_pow] at ha
  have hq : bl (d.int.natAbs / 2 ^ t) ≤ n.toNat := by rw [bl_div_two_pow, int_bl]; omega
  have hr : bl (rndQ d.int (2 ^ t) high).natAbs ≤ n.toNat + 1 := Nat.le_trans (bl_mono ha) (bl_half_succ hq)
  exact formZ_fit hr (by omega) (by omega) (by omega) hE
theorem quo_fit {a b : Dyd} {L E : Nat} (ha : Fit a L E) (hb : Fit b L E) (hs : b.neg = false) (h0 : b.mag ≠ []) {n : Int} (hn : 1 ≤ n ∧ n ≤ 8192) (hE : 2 * E + 3 * L + 20000 ≤ 16777216) (high : Bool) : Fit (quoE a b n high) (n.toNat + 1) (2 * E + 3 * L + 20000) := by
  obtain ⟨s, m, e⟩ := a
  obtain ⟨s', m', e'⟩ := b
  simp only at hs h0
  subst hs
  obtain ⟨S, t, -, k2, k3, k4, k5⟩ := quoE_formZ ha.may hb.may h0 hn.1
  have a0 := ha.bits
  have a1 := ha.lo
  have a2 := ha.hi
  have b0 := hb.bits
  have b1 := hb.lo
  have b2 := hb.hi
  simp only at a0 a1 a2 b0 b1 b2
  have hN := val_ne (mayD_may hb.may) h0
  have hD : 0 < val m' * 2 ^ t := Nat.mul_pos (by omega) (Nat.two_pow_pos t)
  rw [k5]
  have hab := rndQ_abs (sgn s (val m * 2 ^ S)) hD high
  rw [natAbs_sgn] at hab
  have hr := Nat.le_trans (bl_mono hab) (bl_half_succ k4)
  have k6 : t ≤ bl (val m) + S := Nat.le_trans k3 (bl_mul_le (Nat.le_refl _))
  exact formZ_fit hr (by omega) (by omega) (by omega) hE
theorem quoF_fit {a b : Dyd} {L E : Nat} (ha : Fit a L E) (hb : Fit b L E) {n : Int} (hn : 1 ≤ n ∧ n ≤ 8192) (hE : 2 * E + 3 * L + 30000 ≤ 16777216) : Fit (quoF a b n).1 n.toNat (2 * E + 3 * L + 30000) := by
  have a0 := ha.bits
  have a1 := ha.lo
  have a2 := ha.hi
  have b0 := hb.bits
  have b1 := hb.lo
  have b2 := hb.hi
  unfold quoF
  by_cases h : a.mag = []
  · rw [if_pos h]
    exact ⟨mayD_zero, by show bl 0 ≤ _; rw [bl_zero]; omega, by show _ ≤ (0 : Int); omega, by show (0 : Int) ≤ _; omega⟩
  · rw [if_neg h]
    simp only
    rw [cutR_form _ _ _ _ hn.1]
    simp only
    have hS : quoS (val a.mag) (val b.mag) n = (n + 1 + (bl (val b.mag) : Int) - (bl (val a.mag) : Int)).toNat := rfl
    have hQ := Nat.le_trans (bl_mono (Nat.div_le_self (val a.mag * 2 ^ quoS (val a.mag) (val b.mag) n) (val b.mag))) (bl_mul_le (Nat.le_refl _))
    generalize quoS (val a.mag) (val b.mag) n = S at *
    generalize val a.mag * 2 ^ S / val b.mag = Q at *
    have hW := bl_div_two_pow Q ((bl Q : Int) - n).toNat
    exact (fit_form (by omega) (by omega) (by omega) (by omega) hE).1
theorem top_fit {d : Dyd} {L E : Nat} (h : Fit d L E) : -(E : Int) ≤ topD d ∧ topD d ≤ E + L := by
  have h1 := h.bits
  have h2 := h.lo
  have h3 := h.hi
  unfold topD
  split <;> omega
theorem quoD_fit {a b : Dyd} {L E : Nat} (ha : Fit a L E) (hb : Fit b L E) (h0 : b.mag ≠ []) {n : Int} (hn : 1 ≤ n ∧ n ≤ 8192) (hE : 2 * E + 3 * L + 30000 ≤ 16777216) : quoD a b n = ⟨(quoF a b n).1, (quoF a b n).2, 0⟩ := by
  have hf := quoF_fit ha hb hn hE
  have h1 := hf.lo
  have h2 := hf.hi
  rw [quoD_eq ha.may hb.may h0 hn.1 hn.2, if_pos (inside_iff.2 (by omega))]
theorem unit_may {u : Int} (h : -16777216 ≤ u ∧ u ≤ 16777216) : mayD (unitOf u) = true := by
  unfold unitOf
  rw [mayD_iff]
  refine ⟨rfl, .inr ⟨by decide, by decide, inside_iff.2 h⟩⟩
theorem cut_may {d : Dyd} (h : mid d) {n : Int} (hn : 1 ≤ n) : mayD (cutR d n).1 = true := by
  obtain ⟨h0, h1, h2⟩ := h
  have hb := may_bl (mayD_may (s := d.neg) (m := d.mag) (e := d.exp) h0)
  rw [self_formZ h0, cutR_formZ _ _ _ hn, int_bl]
  simp only
  have hq : bl (d.int.natAbs / 2 ^ ((bl (val d.mag) : Int) - n).toNat) ≤ 131072 := by rw [bl_div_two_pow, int_bl]; omega
  exact (fit_form (L := 131072) (E := 2000000) hq (by omega) (by omega) (by decide) (by decide)).1.may
theorem cutD_eq {d : Dyd} (h : mid d) {n : Int} (hn : 1 ≤ n ∧ n ≤ 8192) : cutD d n = ⟨(cutR d n).1, (cutR d n).2, 0⟩ := by
  have hm := cut_may h hn.1
  unfold cutD
  rw [if_pos h.1, if_pos (show askD n = 0 by unfold askD; rw [if_neg (by omega), if_neg (by omega)])]
  unfold cutL
  unfold cutR at hm ⊢
  by_cases c : overD d n ≤ 0
  · rw [if_pos c, if_pos c]
  · rw [if_neg c] at hm
    rw [if_neg c, if_neg c, boundD_self hm]
    rfl
theorem mid_fit {d : Dyd} (h : mid d) : Fit d 131072 1000000 := ⟨h.1, may_bl (mayD_may (s := d.neg) (m := d.mag) (e := d.exp) h.1), h.2.1, h.2.2⟩
theorem fit_mid {d : Dyd} {L E : Nat} (h : Fit d L E) (hE : E ≤ 1000000) : mid d := ⟨h.may, by have := h.lo; omega, by have := h.hi; omega⟩
theorem top_mid {d : Dyd} (h : mid d) : -1000000 ≤ topD d ∧ topD d ≤ 1131072 := by
  have hf := mid_fit h
  have h1 := hf.bits
  have h2 := hf.lo
  have h3 := hf.hi
  unfold topD
  split <;> omega
end Go.Dy

namespace Go.AI
open Go Go.RowKit Go.Proofs
set_option linter.unusedVariables false
set_option maxRecDepth 100000
set_option maxHeartbeats 1000000
theorem dpeel {x : Dy.Dyd} {P : Bool → List Nat → Int → Prop} (h : ∀ b l n, Dy.Dyd.mk b l n = x → P b l n) : dyF x P := by
  rintro _ rfl _ rfl _ rfl
  exact h _ _ _ rfl
theorem avD_of {p : List Nat} {b : Bool} {l : List Nat} {n : Int} {d : Dy.Dyd} (h : Dy.Dyd.mk b l n = d) : AV.agg [.bool b, .dig p l, .num .i64 n] = avD p d := by subst h; rfl
theorem avS_of {p : List Nat} {b b' : Bool} {l l' : List Nat} {n n' : Int} {d d' : Dy.Dyd} (h : Dy.Dyd.mk b l n = d) (h' : Dy.Dyd.mk b' l' n' = d') : AV.agg [.bool b, .dig p l, .num .i64 n, .bool b', .dig p l', .num .i64 n'] = avS p d d' := by subst h h'; rfl
theorem addN {a b : Dy.Dyd} (h1 : Dy.mayD a = true) (h2 : Dy.mayD b = true) (h3 : Dy.mayD (Dy.addD a b) = true) : Dy.boundIf (Dy.mayD a && Dy.mayD b) (Dy.addD a b) = (Dy.addD a b, 0) := by
  unfold Dy.boundIf
  rw [h1, h2, Dy.boundD_self h3]
  rfl
theorem mulN {a b : Dy.Dyd} (h1 : Dy.mayD a = true) (h2 : Dy.mayD b = true) (h3 : Dy.mayD (Dy.mulD a b) = true) : Dy.boundIf (Dy.mayD a && Dy.mayD b) (Dy.mulD a b) = (Dy.mulD a b, 0) := by
  unfold Dy.boundIf
  rw [h1, h2, Dy.boundD_self h3]
  rfl
theorem subN' {a b : Dy.Dyd} (h1 : Dy.mayD a = true) (h2 : Dy.mayD b = true) (h3 : Dy.mayD (Dy.subD a b) = true) : Dy.boundIf (Dy.mayD a && Dy.mayD b) (Dy.addD a (Dy.negD b)) = (Dy.subD a b, 0) := by
  unfold Dy.boundIf
  unfold Dy.subD at h3 ⊢
  rw [h1, h2, Dy.boundD_self h3]
  rfl

theorem ok_span_power (args : List AV) (s : Spec) (h : sPowerS args = some s) (hp : andO s.pre True) : Contract Tryd.prog Inv 55 args s.res := by
  unfold sPowerS at h
  split at h
  · cases h
    refine contract0 false ok_tabF Tryd.func55 (by kernel_rfl) (by kernel_rfl) fun hok => ?_
    rw [vc_span_power]
    rfl
  · cases h
theorem ok_span_Of (args : List AV) (s : Spec) (h : sOfS args = some s) (hp : andO s.pre True) : Contract Tryd.prog Inv 29 args s.res := by
  unfold sOfS at h
  split at h
  · cases h
    refine contract0 true ok_tabF Tryd.func29 (by kernel_rfl) (by kernel_rfl) fun hok => ?_
    rw [vc_span_Of]
    rfl
  · cases h
theorem ok_span_add (args : List AV) (s : Spec) (h : sAddS args = some s) (hp : andO s.pre True) : Contract Tryd.prog Inv 51 args s.res := by
  unfold sAddS at h
  split at h
  · cases h
    obtain ⟨⟨p1, p2, p3⟩, -⟩ := hp
    refine contract0 false ok_tabF Tryd.func51 (by kernel_rfl) (by kernel_rfl) fun hok => ?_
    rw [vc_span_add, addN p1 p2 p3]
    refine dpeel fun b l n hd => ?_
    rintro _ -
    exact avD_of hd
  · cases h
theorem ok_span_sub (args : List AV) (s : Spec) (h : sSubS args = some s) (hp : andO s.pre True) : Contract Tryd.prog Inv 49 args s.res := by
  unfold sSubS at h
  split at h
  · cases h
    obtain ⟨⟨p1, p2, p3⟩, -⟩ := hp
    refine contract0 false ok_tabF Tryd.func49 (by kernel_rfl) (by kernel_rfl) fun hok => ?_
    rw [vc_span_sub, subN' p1 p2 p3]
    refine dpeel fun b l n hd => ?_
    rintro _ -
    exact avD_of hd
  · cases h
theorem ok_span_mul (args : List AV) (s : Spec) (h : sMulS args = some s) (hp : andO s.pre True) : Contract Tryd.prog Inv 56 args s.res := by
  unfold sMulS at h
  split at h
  · cases h
    obtain ⟨⟨p1, p2, p3⟩, -⟩ := hp
    refine contract0 false ok_tabF Tryd.func56 (by kernel_rfl) (by kernel_rfl) fun hok => ?_
    rw [vc_span_mul, mulN p1 p2 p3]
    refine dpeel fun b l n hd => ?_
    rintro _ -
    exact avD_of hd
  · cases h
theorem ok_span_less (args : List AV) (s : Spec) (h : sLessS args = some s) (hp : andO s.pre True) : Contract Tryd.prog Inv 57 args s.res := by
  unfold sLessS at h
  split at h
  · cases h
    obtain ⟨⟨p1, p2⟩, -⟩ := hp
    refine contract0 false ok_tabF Tryd.func57 (by kernel_rfl) (by kernel_rfl) fun hok => ?_
    rw [vc_span_less, p1, p2]
    rintro _ rfl _ -
    rfl
  · cases h
theorem ok_tabR0 : PhiOk Tryd.prog Inv (look tabR0) :=
  look_cons (look_cons (look_cons (look_cons (look_cons (look_cons ok_tabF ok_span_less) ok_span_mul) ok_span_sub) ok_span_add) ok_span_Of) ok_span_power

theorem step_tail {c : Dy.Dyd} {lost high neg : Bool} {u : Int} {b : Bool} {l : List Nat} {k : Int} (hd : Dy.Dyd.mk b l k = c) (hc : Dy.mayD c = true) (hu : -16777216 ≤ u ∧ u ≤ 16777216) (hf : Dy.mayD (Dy.stepD c lost high neg u) = true) :
    bif !lost then AV.agg [.bool b, .dig [0] l, .num .i64 k] = avD [0] (Dy.stepD c lost high neg u)
    else bif decide (neg = high) then AV.agg [.bool b, .dig [0] l, .num .i64 k] = avD [0] (Dy.stepD c lost high neg u)
    else dyF (Dy.unitOf u) fun b6 l7 n8 =>
      bif high then (Dy.mayD (Dy.Dyd.mk b l k) = true ∧ Dy.mayD (Dy.Dyd.mk b6 l7 n8) = true ∧ Dy.mayD (Dy.addD (Dy.Dyd.mk b l k) (Dy.Dyd.mk b6 l7 n8)) = true) ∧
        dyF (Dy.addD (Dy.Dyd.mk b l k) (Dy.Dyd.mk b6 l7 n8)) fun b9 l10 n11 =>
          AV.agg [.bool b9, .dig [0] l10, .num .i64 n11] = avD [0] (Dy.stepD c lost high neg u)
      else (Dy.mayD (Dy.Dyd.mk b l k) = true ∧ Dy.mayD (Dy.Dyd.mk b6 l7 n8) = true ∧ Dy.mayD (Dy.subD (Dy.Dyd.mk b l k) (Dy.Dyd.mk b6 l7 n8)) = true) ∧
        dyF (Dy.subD (Dy.Dyd.mk b l k) (Dy.Dyd.mk b6 l7 n8)) fun b9 l10 n11 =>
          AV.agg [.bool b9, .dig [0] l10, .num .i64 n11] = avD [0] (Dy.stepD c lost high neg u) := by
  subst hd
  have hum := Dy.unit_may hu
  cases lost with
  | false => exact cond_t rfl rfl
  | true =>
    refine cond_f rfl (cond_i (fun h => ?_) (fun h => ?_))
    · have h := of_decide_eq_true h
      subst h
      have : Dy.stepD (Dy.Dyd.mk b l k) true neg neg u = Dy.Dyd.mk b l k := by unfold Dy.stepD; rw [if_neg (by simp)]
      rw [this]
      rfl
    · have h := of_decide_eq_false h
      refine dpeel fun b6 l7 n8 h6 => ?_
      rw [h6]
      have hb : (true && (neg != high)) = true := by cases neg <;> cases high <;> simp_all
      cases high with
      | true =>
        have e : Dy.stepD (Dy.Dyd.mk b l k) true true neg u = Dy.addD (Dy.Dyd.mk b l k) (Dy.unitOf u) := by unfold Dy.stepD; rw [if_pos hb, if_pos rfl]
        rw [e] at hf
        refine cond_t rfl ⟨⟨hc, hum, hf⟩, dpeel fun b9 l10 n11 h9 => ?_⟩
        rw [e]
        exact avD_of h9
      | false =>
        have e : Dy.stepD (Dy.Dyd.mk b l k) true false neg u = Dy.subD (Dy.Dyd.mk b l k) (Dy.unitOf u) := by unfold Dy.stepD; rw [if_pos hb, if_neg (by decide)]
        rw [e] at hf
        refine cond_f rfl ⟨⟨hc, hum, hf⟩, dpeel fun b9 l10 n11 h9 => ?_⟩
        rw [e]
        exact avD_of h9
theorem ok_span_end (args : List AV) (s : Spec) (h : sEndS args = some s) (hp : andO s.pre True) : Contract Tryd.prog Inv 69 args s.res := by
  unfold sEndS at h
  split at h
  · cases h
    obtain ⟨⟨hm, h1, h2⟩, -⟩ := hp
    refine contract0 false ok_tabR0 Tryd.func69 (by kernel_rfl) (by kernel_rfl) fun hok => ?_
    have ht := Dy.top_mid hm
    rw [vc_span_end, Dy.cutD_eq hm ⟨h1, h2⟩, if_pos hm.1, wrap_i64 (by omega) (by omega)]
    refine dpeel fun b l k hd => ?_
    rintro _ rfl _ -
    exact step_tail hd (Dy.cut_may hm h1) (by omega) (Dy.end_fit (Dy.mid_fit hm) ⟨h1, h2⟩ (by decide) _).may
  · cases h
theorem ok_span_quo (args : List AV) (s : Spec) (h : sQuoS args = some s) (hp : andO s.pre True) : Contract Tryd.prog Inv 53 args s.res := by
  unfold sQuoS at h
  split at h
  · cases h
    rename_i high
    obtain ⟨⟨hm, hm', h0, l1, l2, h1, h2, hs⟩, -⟩ := hp
    refine contract0 false ok_tabR0 Tryd.func53 (by kernel_rfl) (by kernel_rfl) fun hok => ?_
    have hq := Dy.quoF_fit (Dy.mid_fit hm) (Dy.mid_fit hm') ⟨h1, h2⟩ (by decide)
    have ht := Dy.top_fit hq
    rw [vc_span_quo, Dy.quoD_fit (Dy.mid_fit hm) (Dy.mid_fit hm') h0 ⟨h1, h2⟩ (by decide)]
    refine ⟨⟨l1, l2⟩, dpeel fun b l k hd => ?_⟩
    rintro _ rfl _ -
    change Dy.Dyd.mk b l k = (Dy.quoF _ _ _).1 at hd
    rw [← hd] at hq ht
    rw [if_pos hq.may, wrap_i64 (by omega) (by omega)]
    have hf := (Dy.quo_fit (Dy.mid_fit hm) (Dy.mid_fit hm') hs h0 ⟨h1, h2⟩ (by decide) high).may
    unfold Dy.quoE at hf ⊢
    rw [← hd] at hf ⊢
    exact step_tail rfl hq.may (by omega) hf
  · cases h
theorem ok_tabR1 : PhiOk Tryd.prog Inv (look tabR1) := look_cons (look_cons ok_tabR0 ok_span_quo) ok_span_end

theorem ok_span_out (args : List AV) (s : Spec) (h : sOutS args = some s) (hp : andO s.pre True) : Contract Tryd.prog Inv 50 args s.res := by
  unfold sOutS at h
  split at h
  · cases h
    obtain ⟨⟨hm, hm', h1, h2⟩, -⟩ := hp
    refine contract0 false ok_tabR1 Tryd.func50 (by kernel_rfl) (by kernel_rfl) fun hok => ?_
    rw [vc_span_out]
    refine ⟨⟨hm, h1, h2⟩, dpeel fun b l k hd => ⟨⟨hm', h1, h2⟩, dpeel fun b' l' k' hd' => ?_⟩⟩
    exact avS_of hd hd'
  · cases h
theorem ok_span_Sign (args : List AV) (s : Spec) (h : sSignSp args = some s) (hp : andO s.pre True) : Contract Tryd.prog Inv 37 args s.res := by
  unfold sSignSp at h
  split at h
  · cases h
    obtain ⟨⟨p1, p2⟩, -⟩ := hp
    refine contract0 false ok_tabR1 Tryd.func37 (by kernel_rfl) (by kernel_rfl) fun hok => ?_
    rw [vc_span_Sign, if_pos p1, if_pos p2]
    unfold Dy.signS
    refine cond_i (fun h => ?_) (fun h => ?_)
    · rw [if_pos (of_decide_eq_true h)]
    · rw [if_neg (of_decide_eq_false h)]
  · cases h
theorem ok_span_Neg (args : List AV) (s : Spec) (h : sNegS args = some s) (hp : andO s.pre True) : Contract Tryd.prog Inv 52 args s.res := by
  unfold sNegS at h
  split at h
  · cases h
    obtain ⟨⟨p1, p2⟩, -⟩ := hp
    refine contract0 false ok_tabR1 Tryd.func52 (by kernel_rfl) (by kernel_rfl) fun hok => ?_
    rw [vc_span_Neg, p1, p2]
    refine dpeel fun b l k hd => ?_
    rintro _ -
    refine dpeel fun b' l' k' hd' => ?_
    rintro _ -
    exact avS_of hd hd'
  · cases h
theorem shiftD_mid {d : Dy.Dyd} (h : Dy.mid d) {k : Int} (hk : -1000000 ≤ k ∧ k ≤ 1000000) : Dy.shiftD d k = (Dy.shD d k, 0) := by
  unfold Dy.shiftD Dy.shD
  obtain ⟨h0, h1, h2⟩ := h
  rw [if_pos h0]
  by_cases c : d.mag = []
  · rw [if_pos c, if_pos c]
  · rw [if_neg c, if_neg c, if_pos (Dy.inside_iff.2 (by omega))]
theorem ok_span_Scale (args : List AV) (s : Spec) (h : sScaleS args = some s) (hp : andO s.pre True) : Contract Tryd.prog Inv 30 args s.res := by
  unfold sScaleS at h
  split at h
  · cases h
    obtain ⟨⟨p1, p2, k1, k2⟩, -⟩ := hp
    refine contract0 false ok_tabR1 Tryd.func30 (by kernel_rfl) (by kernel_rfl) fun hok => ?_
    rw [vc_span_Scale, shiftD_mid p1 ⟨k1, k2⟩, shiftD_mid p2 ⟨k1, k2⟩]
    refine dpeel fun b l k hd => ?_
    rintro _ -
    refine dpeel fun b' l' k' hd' => ?_
    rintro _ -
    exact avS_of hd hd'
  · cases h
theorem ok_span_Nearest (args : List AV) (s : Spec) (h : sNearest args = some s) (hp : andO s.pre True) : Contract Tryd.prog Inv 33 args s.res := by
  unfold sNearest at h
  split at h
  · cases h
    obtain ⟨⟨p1, p2, p3, p4, p5, p6⟩, -⟩ := hp
    refine contract0 false ok_tabR1 Tryd.func33 (by kernel_rfl) (by kernel_rfl) fun hok => ?_
    have hu : Dy.mayD (Dy.unitOf (-1)) = true := Dy.unit_may (by decide)
    rw [vc_span_Nearest]
    refine dpeel fun b1 l1 k1 d1 => ?_
    rw [d1]
    refine ⟨⟨p1, hu, p3⟩, dpeel fun b2 l2 k2 d2 => ?_⟩
    rw [d2, p3]
    refine dpeel fun b3 l3 k3 d3 => ?_
    rintro _ -
    refine dpeel fun b4 l4 k4 d4 => ?_
    rw [d4]
    refine ⟨⟨p2, hu, p4⟩, dpeel fun b5 l5 k5 d5 => ?_⟩
    rw [d5, p4]
    refine dpeel fun b6 l6 k6 d6 => ?_
    rintro _ -
    have q3 : Dy.mayD (Dy.Dyd.mk b3 l3 k3) = true := by rw [d3]; exact p5
    have q6 : Dy.mayD (Dy.Dyd.mk b6 l6 k6) = true := by rw [d6]; exact p6
    rw [q3, q6]
    rintro _ rfl _ -
    rw [avD_of d3, d3, d6]
    rfl
  · cases h
theorem and_three (x : Int) : IntKind.i64.wrap (((BitVec.ofInt 64 x &&& BitVec.ofInt 64 3).toNat : Nat) : Int) = x % 4 := by
  have h : (BitVec.ofInt 64 x &&& BitVec.ofInt 64 3).toNat = (x % 18446744073709551616).toNat % 4 := by
    rw [BitVec.toNat_and, BitVec.toNat_ofInt, BitVec.toNat_ofInt]
    show (x % 18446744073709551616).toNat &&& (2 ^ 2 - 1) = _
    rw [Nat.and_two_pow_sub_one_eq_mod]
  rw [h, wrap_i64 (by omega) (by omega)]
  omega
theorem ok_span_rest (args : List AV) (s : Spec) (h : sRestS args = some s) (hp : andO s.pre True) : Contract Tryd.prog Inv 34 args s.res := by
  unfold sRestS at h
  split at h
  · cases h
    rename_i s m e
    obtain ⟨⟨p1, p2⟩, -⟩ := hp
    refine contract0 false ok_tabR1 Tryd.func34 (by kernel_rfl) (by kernel_rfl) fun hok => ?_
    rw [vc_span_rest, if_pos p1]
    have hat : Dy.at_ ⟨s, m, e⟩ 0 = Dy.sgn s (Dy.val m * 2 ^ e.toNat) := by rw [Dy.at_mk, Int.sub_zero]
    refine cond_i (fun h => ?_) (fun h => cond_i (fun h' => ?_) (fun h' => ?_))
    · have h := of_decide_eq_true h
      have : Dy.val m * 2 ^ e.toNat = 4 * (Dy.val m * 2 ^ (e.toNat - 2)) := by
        rw [show e.toNat = 2 + (e.toNat - 2) by omega, Nat.pow_add, show 2 + (e.toNat - 2) - 2 = e.toNat - 2 by omega]
        rw [Nat.mul_left_comm]
      show AV.num .i64 0 = AV.num .i64 _
      rw [hat, this]
      congr 1
      unfold Dy.sgn
      split <;> omega
    · have h' := of_decide_eq_true h'
      have hm : m = [] := by
        unfold Dy.signD at h'
        by_cases c : m = []
        · exact c
        · rw [if_neg c] at h'
          split at h' <;> omega
      subst hm
      show AV.num .i64 0 = AV.num .i64 _
      rw [hat, show Dy.val [] = 0 from rfl, Nat.zero_mul, Dy.sgn_zero]
      rfl
    · have h := of_decide_eq_false h
      have h' := of_decide_eq_false h'
      cases m with
      | nil => exact absurd rfl h'
      | cons x l =>
        have hx : Dy.okl (x :: l) := (oks_d hok).1
        have hx0 : x < 4294967296 := hx.2 x (by simp)
        have e32 : (2 : Int) ^ min e.toNat 32 = ((2 ^ e.toNat : Nat) : Int) := by rw [Nat.min_eq_left (by omega)]; simp
        have hg : (x :: l).getD 0 0 = x := rfl
        have key : IntKind.i64.wrap (IntKind.u32.wrap ((x : Int) * ((2 ^ e.toNat : Nat) : Int))) % 4 = ((Dy.val (x :: l) * 2 ^ e.toNat : Nat) : Int) % 4 := by
          have hv : Dy.val (x :: l) = x + 4294967296 * Dy.val l := rfl
          rw [wrap_u32, hv]
          rcases (by omega : e.toNat = 0 ∨ e.toNat = 1) with c | c
          · rw [c, wrap_i64 (by omega) (by omega)]
            omega
          · rw [c, wrap_i64 (by omega) (by omega)]
            omega
        refine ⟨⟨by omega, by simp⟩, p2, ?_⟩
        rw [hg, e32, and_three, and_three, key, hat]
        generalize Dy.val (x :: l) * 2 ^ e.toNat = N
        cases s
        · exact cond_f rfl rfl
        · refine cond_t rfl ?_
          show AV.num .i64 _ = AV.num .i64 _
          rw [wrap_i64 (by omega) (by omega)]
          congr 1
          unfold Dy.sgn
          simp only [if_true]
          omega
  · cases h
end Go.AI

namespace Go.AI
open Go Go.RowKit Go.Proofs
set_option linter.unusedVariables false
set_option maxRecDepth 100000
set_option maxHeartbeats 0
def lsArc : List AV → Option LR
  | [.num .u64 k, .dig [3] x, .dig [3] p, .dig [3] m, .num .u64 t, .num .u64 i] =>
  some (.need (Dy.dg (Dy.val x) = x ∧ Dy.dg (Dy.val p) = p ∧ Dy.dg (Dy.val m) = m ∧ 2 ≤ k ∧ k ≤ 65536 ∧ i % 2 = 1 ∧ 0 ≤ t ∧ t + Dy.bl (Dy.val x) ≤ 1099511627776 ∧ 1 ≤ i ∧ i + 2 * Dy.bl (Dy.val x) ≤ 1099511627776 ∧
  Dy.bl (Dy.val p + 2 * Dy.val x) ≤ 131072 ∧ Dy.bl (Dy.val m + 2 * Dy.val x) ≤ 131072)
  (.done (.exit 0) [.num .u64 k, .dig [3] [], .dig [3] (Dy.dg (Dy.arcF (k.toNat * k.toNat) (Dy.bl (Dy.val x)) (Dy.val x) (Dy.val p) (Dy.val m) t.toNat i.toNat).plus),
  .dig [3] (Dy.dg (Dy.arcF (k.toNat * k.toNat) (Dy.bl (Dy.val x)) (Dy.val x) (Dy.val p) (Dy.val m) t.toNat i.toNat).minus),
  .num .u64 ((Dy.arcF (k.toNat * k.toNat) (Dy.bl (Dy.val x)) (Dy.val x) (Dy.val p) (Dy.val m) t.toNat i.toNat).terms : Nat),
  .num .u64 ((Dy.arcF (k.toNat * k.toNat) (Dy.bl (Dy.val x)) (Dy.val x) (Dy.val p) (Dy.val m) t.toNat i.toNat).next : Nat)]))
  | _ => none
def keepArc : List (Nat × Keep) := [(1, .same), (9, .same), (12, .same), (13, .same), (14, .same), (15, .same)]
def lamArc := lam [(5, .spec keepArc lsArc)]
theorem vc_span_arc (n : Int) (k : Int) (Q : AV →
  Prop) : (evF Tryd.prog (look tabR1) lamArc false Tryd.f47 [AV.num IntKind.i64 n, AV.num IntKind.u64 k] Q) =
  (∀ (l1 : List Nat),
  l1 = (Dy.shiftN (Dy.dg (1 : Nat)) n).mag →
  ∀ (b2 : Bool),
  b2 = (Dy.shiftN (Dy.dg (1 : Nat)) n).lost →
  ∀ (n3 : Int),
  n3 = (Dy.shiftN (Dy.dg (1 : Nat)) n).err →
  ∀ (l4 : List Nat),
  l4 = (Dy.quoR l1 (Dy.dg k.toNat)).quo →
  ∀ (l5 : List Nat),
  l5 = (Dy.quoR l1 (Dy.dg k.toNat)).rem →
  ∀ (n6 : Int),
  n6 = (Dy.quoR l1 (Dy.dg k.toNat)).err →
  (Dy.dg (Dy.val l4) = l4 ∧
  Dy.dg (0 : Nat) = [] ∧
  Dy.dg (0 : Nat) = [] ∧
  (2 : Int) ≤ k ∧
  k ≤ (65536 : Int) ∧
  (1 : Int) % (2 : Int) = (1 : Int) ∧
  (0 : Int) ≤ (0 : Int) ∧
  (0 : Int) + (↑(Dy.bl (Dy.val l4)) : Int) ≤ (1099511627776 : Int) ∧
  (1 : Int) ≤ (1 : Int) ∧
  (1 : Int) + (2 : Int) * (↑(Dy.bl (Dy.val l4)) : Int) ≤
  (1099511627776 : Int) ∧
  Dy.bl ((0 : Nat) + (2 : Nat) * Dy.val l4) ≤ (131072 : Nat) ∧
  Dy.bl ((0 : Nat) + (2 : Nat) * Dy.val l4) ≤ (131072 : Nat)) ∧
  ∀ (l7 : List Nat),
  l7 =
  (Dy.subR
  (Dy.dg
  (Dy.arcF (k.toNat * k.toNat) (Dy.bl (Dy.val l4)) (Dy.val l4) (0 : Nat) (0 : Nat)
  (0 : Nat) (1 : Nat)).plus)
  (Dy.dg
  (Dy.arcF (k.toNat * k.toNat) (Dy.bl (Dy.val l4)) (Dy.val l4) (0 : Nat) (0 : Nat)
  (0 : Nat) (1 : Nat)).minus)).fst →
  ∀ (n8 : Int),
  n8 =
  (Dy.subR
  (Dy.dg
  (Dy.arcF (k.toNat * k.toNat) (Dy.bl (Dy.val l4)) (Dy.val l4) (0 : Nat)
  (0 : Nat) (0 : Nat) (1 : Nat)).plus)
  (Dy.dg
  (Dy.arcF (k.toNat * k.toNat) (Dy.bl (Dy.val l4)) (Dy.val l4) (0 : Nat)
  (0 : Nat) (0 : Nat) (1 : Nat)).minus)).snd →
  Q
  (AV.tup
  [AV.dig [(0 : Nat)] l7,
  AV.num IntKind.u64
  (IntKind.u64.wrap
  (IntKind.u64.wrap
  ((2 : Int) *
  (↑(Dy.arcF (k.toNat * k.toNat) (Dy.bl (Dy.val l4)) (Dy.val l4)
  (0 : Nat) (0 : Nat) (0 : Nat) (1 : Nat)).terms :
  Int)) +
  (2 : Int)))])) := by kernel_rfl
theorem vc_span_arc_1 (x : List
  Nat) (p : List
  Nat) (m : List
  Nat) (k : Int) (t : Int) (i : Int) (K : Exit →
  List AV →
  Prop) : (evIter Tryd.prog (look tabR1) lamArc (2 : Nat) (86 : Nat) keepArc (bodyN Tryd.f47 (0 : Nat))
  [AV.num IntKind.u64 k, AV.dig [(3 : Nat)] x, AV.dig [(3 : Nat)] p, AV.dig [(3 : Nat)] m, AV.num IntKind.u64 t,
  AV.num IntKind.u64 i]
  K) =
  (bif decide ((↑x.length : Int) > (0 : Int)) then
  ∀ (l1 : List Nat),
  l1 = (Dy.quoR x (Dy.dg i.toNat)).quo →
  ∀ (l2 : List Nat),
  l2 = (Dy.quoR x (Dy.dg i.toNat)).rem →
  ∀ (n3 : Int),
  n3 = (Dy.quoR x (Dy.dg i.toNat)).err →
  bif
  !decide
  (IntKind.u64.wrap
  (↑(BitVec.ofInt (64 : Nat) i &&& BitVec.ofInt (64 : Nat) (2 : Int)).toNat : Int) =
  (0 : Int)) then
  ∀ (l4 : List Nat),
  l4 = (Dy.addR m l1).fst →
  ∀ (n5 : Int),
  n5 = (Dy.addR m l1).snd →
  ∀ (l6 : List Nat),
  l6 = (Dy.quoR x (Dy.dg (IntKind.u64.wrap (k * k)).toNat)).quo →
  ∀ (l7 : List Nat),
  l7 = (Dy.quoR x (Dy.dg (IntKind.u64.wrap (k * k)).toNat)).rem →
  ∀ (n8 : Int),
  n8 = (Dy.quoR x (Dy.dg (IntKind.u64.wrap (k * k)).toNat)).err →
  K Exit.normal
  [AV.num IntKind.u64 k, AV.dig [(3 : Nat)] l6, AV.dig [(3 : Nat)] p,
  AV.dig [(3 : Nat)] l4, AV.num IntKind.u64 (IntKind.u64.wrap (t + (1 : Int))),
  AV.num IntKind.u64 (IntKind.u64.wrap (i + (2 : Int)))]
  else
  ∀ (l9 : List Nat),
  l9 = (Dy.addR p l1).fst →
  ∀ (n10 : Int),
  n10 = (Dy.addR p l1).snd →
  ∀ (l11 : List Nat),
  l11 = (Dy.quoR x (Dy.dg (IntKind.u64.wrap (k * k)).toNat)).quo →
  ∀ (l12 : List Nat),
  l12 = (Dy.quoR x (Dy.dg (IntKind.u64.wrap (k * k)).toNat)).rem →
  ∀ (n13 : Int),
  n13 = (Dy.quoR x (Dy.dg (IntKind.u64.wrap (k * k)).toNat)).err →
  K Exit.normal
  [AV.num IntKind.u64 k, AV.dig [(3 : Nat)] l11, AV.dig [(3 : Nat)] l9,
  AV.dig [(3 : Nat)] m, AV.num IntKind.u64 (IntKind.u64.wrap (t + (1 : Int))),
  AV.num IntKind.u64 (IntKind.u64.wrap (i + (2 : Int)))]
 else
  K (Exit.exit (0 : Nat))
  [AV.num IntKind.u64 k, AV.dig [(3 : Nat)] x, AV.dig [(3 : Nat)] p, AV.dig [(3 : Nat)] m, AV.num IntKind.u64 t,
  AV.num IntKind.u64 i]) := by kernel_rfl
end Go.AI

namespace Go.Dy
theorem bl_div_lt {x k : Nat} (hk : 2 ≤ k) (hx : x ≠ 0) : bl (x / k) + 1 ≤ bl x := by
  have h1 : x / k ≤ x / 2 ^ 1 := Nat.div_le_div_left hk (by decide)
  have h2 := bl_mono h1
  rw [bl_div_two_pow] at h2
  have := bl_pos.2 hx
  omega
theorem arcF_fuel {kk : Nat} (hk : 2 ≤ kk) : ∀ (n x : Nat), bl x ≤ n → ∀ (f g p m t i : Nat), bl x ≤ f → bl x ≤ g → arcF kk f x p m t i = arcF kk g x p m t i
  | 0, x, h, f, g, p, m, t, i, _, _ => by
    have : x = 0 := by
      refine Decidable.byContradiction fun c => ?_
      have := bl_pos.2 c
      omega
    subst this
    cases f <;> cases g <;> simp [arcF]
  | n + 1, x, h, f, g, p, m, t, i, hf, hg => by
    by_cases c : x = 0
    · subst c
      cases f <;> cases g <;> simp [arcF]
    · have h1 := bl_div_lt hk c
      cases f with
      | zero => omega
      | succ f =>
        cases g with
        | zero => omega
        | succ g =>
          simp only [arcF, if_neg c]
          rw [arcF_fuel hk n (x / kk) (by omega) f g p (m + x / i) (t + 1) (i + 2) (by omega) (by omega), arcF_fuel hk n (x / kk) (by omega) f g (p + x / i) m (t + 1) (i + 2) (by omega) (by omega)]
/-- one step -/
theorem arcF_step {kk x p m t i : Nat} (hk : 2 ≤ kk) (hx : x ≠ 0) : arcF kk (bl x) x p m t i = if i % 4 = 3 then arcF kk (bl (x / kk)) (x / kk) p (m + x / i) (t + 1) (i + 2) else arcF kk (bl (x / kk)) (x / kk) (p + x / i) m (t + 1) (i + 2) := by
  have h1 := bl_div_lt hk hx
  obtain ⟨f, hf⟩ : ∃ f, bl x = f + 1 := ⟨bl x - 1, by omega⟩
  rw [hf]
  simp only [arcF, if_neg hx]
  rw [arcF_fuel hk _ (x / kk) (Nat.le_refl _) f (bl (x / kk)) p (m + x / i) (t + 1) (i + 2) (by omega) (Nat.le_refl _), arcF_fuel hk _ (x / kk) (Nat.le_refl _) f (bl (x / kk)) (p + x / i) m (t + 1) (i + 2) (by omega) (Nat.le_refl _)]
theorem quoR_dg {x : List Nat} {D : Nat} (hx : dg (val x) = x) (hb : bl (val x) ≤ 131072) (hD : 0 < D) (hD2 : bl D ≤ 131072) : quoR x (dg D) = ⟨dg (val x / D), dg (val x % D), 0⟩ := by
  have m1 : may x = true := by rw [← hx]; exact may_dgn.2 (len_bl.2 hb)
  have m2 : may (dg D) = true := may_dgn.2 (len_bl.2 hD2)
  unfold quoR
  rw [m1, m2, if_pos (show (true && true) = true from rfl), val_dg, if_neg (by omega)]
theorem addR_sum {a : List Nat} {n : Nat} (ha : dg (val a) = a) (hb : bl (val a + n) ≤ 131072) : addR a (dg n) = (dg (val a + n), 0) := by
  have m1 : may a = true := by rw [← ha]; exact may_dgn.2 (len_bl.2 (Nat.le_trans (bl_mono (Nat.le_add_right _ _)) hb))
  have m2 : may (dg n) = true := may_dgn.2 (len_bl.2 (Nat.le_trans (bl_mono (Nat.le_add_left _ _)) hb))
  unfold addR boundN
  rw [m1, m2, if_pos (show (true && true) = true from rfl), val_dg, if_pos (len_bl.2 hb)]
theorem and2 (x : Nat) : (x &&& 2 = 0) ↔ x / 2 % 2 = 0 := by
  have h : x &&& 2 = (x % 4) &&& 2 := by
    have h1 : x &&& 3 = x % 4 := Nat.and_two_pow_sub_one_eq_mod x 2
    have h2 : x &&& 2 = x &&& (3 &&& 2) := rfl
    rw [h2, ← Nat.and_assoc, h1]
  rw [h]
  have h3 : x / 2 % 2 = x % 4 / 2 := by omega
  rw [h3]
  have h4 : x % 4 < 4 := Nat.mod_lt _ (by decide)
  generalize x % 4 = y at *
  rcases (by omega : y = 0 ∨ y = 1 ∨ y = 2 ∨ y = 3) with c | c | c | c <;> subst c <;> decide
end Go.Dy
namespace Go.AI
open Go Go.RowKit Go.Proofs
set_option linter.unusedVariables false
set_option maxRecDepth 100000
set_option maxHeartbeats 1000000
theorem bit1 {i : Int} (h1 : 1 ≤ i) (h2 : i < 1099511627776) (h3 : i % 2 = 1) : (!decide (IntKind.u64.wrap (((BitVec.ofInt 64 i &&& BitVec.ofInt 64 2).toNat : Nat) : Int) = 0)) = decide (i.toNat % 4 = 3) := by
  have h : (BitVec.ofInt 64 i &&& BitVec.ofInt 64 2).toNat = i.toNat &&& 2 := by
    rw [BitVec.toNat_and, BitVec.toNat_ofInt, BitVec.toNat_ofInt]
    show (i % 18446744073709551616).toNat &&& 2 = _
    rw [show i % 18446744073709551616 = i by omega]
  rw [h, wrap_u64]
  have h5 := Dy.and2 i.toNat
  have h6 : i.toNat &&& 2 ≤ 2 := Nat.and_le_right
  generalize i.toNat &&& 2 = z at *
  rw [Bool.eq_iff_iff]
  simp only [Bool.not_eq_true', decide_eq_false_iff_not, decide_eq_true_eq]
  constructor
  · intro h
    have : ¬ z = 0 := by omega
    rw [h5] at this
    omega
  · intro h h7
    have : z = 0 := by omega
    rw [h5] at this
    omega
theorem loop_span_arc : LoopOk Tryd.prog (look tabR1) lamArc 2 86 keepArc (bodyN Tryd.f47 0) lsArc := by
  intro vals r h K hK
  unfold lsArc at h
  split at h
  · cases h
    rename_i k x p m t i
    simp only [evLR] at hK
    obtain ⟨⟨dx, dp, dm, k1, k2, i1, t1, t2, i2, i3, b1, b2⟩, hK⟩ := hK
    have key : ∀ (n : Nat) (x p m : List Nat) (t i : Int), Dy.bl (Dy.val x) = n → Dy.dg (Dy.val x) = x → Dy.dg (Dy.val p) = p → Dy.dg (Dy.val m) = m → i % 2 = 1 → 0 ≤ t → t + Dy.bl (Dy.val x) ≤ 1099511627776 → 1 ≤ i → i + 2 * Dy.bl (Dy.val x) ≤ 1099511627776 →
        Dy.bl (Dy.val p + 2 * Dy.val x) ≤ 131072 → Dy.bl (Dy.val m + 2 * Dy.val x) ≤ 131072 →
        K (Exit.exit 0) [.num .u64 k, .dig [3] [], .dig [3] (Dy.dg (Dy.arcF (k.toNat * k.toNat) (Dy.bl (Dy.val x)) (Dy.val x) (Dy.val p) (Dy.val m) t.toNat i.toNat).plus),
          .dig [3] (Dy.dg (Dy.arcF (k.toNat * k.toNat) (Dy.bl (Dy.val x)) (Dy.val x) (Dy.val p) (Dy.val m) t.toNat i.toNat).minus),
          .num .u64 ((Dy.arcF (k.toNat * k.toNat) (Dy.bl (Dy.val x)) (Dy.val x) (Dy.val p) (Dy.val m) t.toNat i.toNat).terms : Nat),
          .num .u64 ((Dy.arcF (k.toNat * k.toNat) (Dy.bl (Dy.val x)) (Dy.val x) (Dy.val p) (Dy.val m) t.toNat i.toNat).next : Nat)] →
        ∃ n, iterN Tryd.prog (look tabR1) lamArc 2 86 keepArc (bodyN Tryd.f47 0) n [.num .u64 k, .dig [3] x, .dig [3] p, .dig [3] m, .num .u64 t, .num .u64 i] K := by
      intro n
      induction n using Nat.strongRecOn with
      | _ n ih =>
      intro x p m t i hn dx dp dm i1 t1 t2 i2 i3 b1 b2 hK
      have hkk : 2 ≤ k.toNat * k.toNat := Nat.le_trans (by omega : 2 ≤ k.toNat) (Nat.le_mul_of_pos_right _ (by omega))
      have hkw : (IntKind.u64.wrap (k * k)).toNat = k.toNat * k.toNat := by
        have h0 : 0 ≤ k * k := Int.mul_nonneg (by omega) (by omega)
        have h1 : k * k ≤ 65536 * 65536 := Int.mul_le_mul k2 k2 (by omega) (by omega)
        rw [wrap_u64, Int.emod_eq_of_lt h0 (by omega), Int.toNat_mul (by omega) (by omega)]
      by_cases c : Dy.val x = 0
      · have hx : x = [] := by rw [← dx, c, Dy.dg_zero]
        subst hx
        refine iterN_last ?_
        rw [vc_span_arc_1]
        refine cond_f rfl ?_
        have e : Dy.arcF (k.toNat * k.toNat) (Dy.bl (Dy.val [])) (Dy.val []) (Dy.val p) (Dy.val m) t.toNat i.toNat = ⟨Dy.val p, Dy.val m, t.toNat, i.toNat⟩ := by
          rw [c, Dy.bl_zero]; rfl
        rw [e] at hK
        simp only [dp, dm] at hK
        rw [show ((t.toNat : Nat) : Int) = t by omega, show ((i.toNat : Nat) : Int) = i by omega] at hK
        exact hK
      · have hxl : x ≠ [] := fun e => c (by rw [e]; rfl)
        have hlen := List.length_pos_iff.2 hxl
        rw [Dy.arcF_step hkk c] at hK
        have hlt := Dy.bl_div_lt hkk c
        have bx : Dy.bl (Dy.val x) ≤ 131072 := Nat.le_trans (Dy.bl_mono (by omega)) b1
        have hi0 : 0 < i.toNat := by omega
        have hti : Dy.val x / i.toNat ≤ Dy.val x := Nat.div_le_self _ _
        have htk : 2 * (Dy.val x / (k.toNat * k.toNat)) ≤ Dy.val x := by
          have : Dy.val x / (k.toNat * k.toNat) ≤ Dy.val x / 2 := Nat.div_le_div_left hkk (by decide)
          omega
        have q1 := Dy.quoR_dg (D := i.toNat) dx bx hi0 (by have := Dy.bl_mono (show i.toNat ≤ 2 ^ 40 - 1 by omega); rw [show Dy.bl (2 ^ 40 - 1) = 40 from Dy.bl_eq (by decide) (by decide)] at this; omega)
        have hkk2 : Dy.bl (k.toNat * k.toNat) ≤ 131072 := by
          have := Nat.mul_le_mul (show k.toNat ≤ 65536 by omega) (show k.toNat ≤ 65536 by omega)
          have := Dy.bl_mono this
          rw [show Dy.bl (65536 * 65536) = 33 from Dy.bl_eq (by decide) (by decide)] at this
          omega
        have q2 := Dy.quoR_dg (D := k.toNat * k.toNat) dx bx (by omega) hkk2
        have wt : IntKind.u64.wrap (t + 1) = t + 1 := by rw [wrap_u64]; omega
        have wi : IntKind.u64.wrap (i + 2) = i + 2 := by rw [wrap_u64]; omega
        have e1 : (t + 1).toNat = t.toNat + 1 := by omega
        have e2 : (i + 2).toNat = i.toNat + 2 := by omega
        have vq : Dy.val (Dy.dg (Dy.val x / (k.toNat * k.toNat))) = Dy.val x / (k.toNat * k.toNat) := Dy.val_dg _
        by_cases c4 : i.toNat % 4 = 3
        · rw [if_pos c4] at hK
          have q3 := Dy.addR_sum (a := m) (n := Dy.val x / i.toNat) dm (Nat.le_trans (Dy.bl_mono (by omega)) b2)
          have vm : Dy.val (Dy.dg (Dy.val m + Dy.val x / i.toNat)) = Dy.val m + Dy.val x / i.toNat := Dy.val_dg _
          obtain ⟨j, hj⟩ := ih _ (by rw [vq]; omega) (Dy.dg (Dy.val x / (k.toNat * k.toNat))) p (Dy.dg (Dy.val m + Dy.val x / i.toNat)) (t + 1) (i + 2) rfl (by rw [vq]) dp (by rw [vm]) (by omega) (by omega) (by rw [vq]; omega) (by omega) (by rw [vq]; omega)
            (by rw [vq]; exact Nat.le_trans (Dy.bl_mono (by omega)) b1) (by rw [vq, vm]; exact Nat.le_trans (Dy.bl_mono (by omega)) b2) (by rw [vq, vm, e1, e2]; exact hK)
          refine iterN_next j ?_
          rw [vc_span_arc_1, hkw, q1, q2, wt, wi]
          refine cond_t (decide_eq_true (by omega)) ?_
          rintro _ rfl _ - _ -
          refine cond_t (by rw [bit1 i2 (by omega) i1]; exact decide_eq_true c4) ?_
          rw [q3]
          rintro _ rfl _ - _ rfl _ - _ -
          exact hj
        · rw [if_neg c4] at hK
          have q3 := Dy.addR_sum (a := p) (n := Dy.val x / i.toNat) dp (Nat.le_trans (Dy.bl_mono (by omega)) b1)
          have vm : Dy.val (Dy.dg (Dy.val p + Dy.val x / i.toNat)) = Dy.val p + Dy.val x / i.toNat := Dy.val_dg _
          obtain ⟨j, hj⟩ := ih _ (by rw [vq]; omega) (Dy.dg (Dy.val x / (k.toNat * k.toNat))) (Dy.dg (Dy.val p + Dy.val x / i.toNat)) m (t + 1) (i + 2) rfl (by rw [vq]) (by rw [vm]) dm (by omega) (by omega) (by rw [vq]; omega) (by omega) (by rw [vq]; omega)
            (by rw [vq, vm]; exact Nat.le_trans (Dy.bl_mono (by omega)) b1) (by rw [vq]; exact Nat.le_trans (Dy.bl_mono (by omega)) b2) (by rw [vq, vm, e1, e2]; exact hK)
          refine iterN_next j ?_
          rw [vc_span_arc_1, hkw, q1, q2, wt, wi]
          refine cond_t (decide_eq_true (by omega)) ?_
          rintro _ rfl _ - _ -
          refine cond_f (by rw [bit1 i2 (by omega) i1]; exact decide_eq_false c4) ?_
          rw [q3]
          rintro _ rfl _ - _ rfl _ - _ -
          exact hj
    exact key _ x p m t i rfl dx dp dm i1 t1 t2 i2 i3 b1 b2 hK
  · cases h
end Go.AI

namespace Go.Dy
/-- a term of the series, over 2^b -/
def term (b n j : Nat) : Nat := 2 ^ b / ((2 * j + 1) * n ^ (2 * j + 1))
/-- the terms from j on, t of them, by turns plus and minus -/
def serN (b n : Nat) : Nat → Nat → Int
  | _, 0 => 0
  | j, t + 1 => (if j % 2 = 0 then (term b n j : Int) else -(term b n j : Int)) + serN b n (j + 1) t
theorem serN_succ (b n : Nat) : ∀ t j, serN b n j (t + 1) = serN b n j t + (if (j + t) % 2 = 0 then (term b n (j + t) : Int) else -(term b n (j + t) : Int))
  | 0, j => by simp [serN]
  | t + 1, j => by
    rw [serN, serN_succ b n t (j + 1), show j + 1 + t = j + (t + 1) by omega, serN]
    omega
/-- at a higher precision a term is the same, but for less than one unit -/
theorem term_up {b c n j : Nat} (h : 0 < n) : 2 ^ c * term b n j ≤ term (b + c) n j ∧ term (b + c) n j < 2 ^ c * term b n j + 2 ^ c := by
  unfold term
  have hd : 0 < (2 * j + 1) * n ^ (2 * j + 1) := Nat.mul_pos (by omega) (Nat.pow_pos h)
  generalize (2 * j + 1) * n ^ (2 * j + 1) = d at *
  rw [Nat.pow_add]
  have h1 := Nat.div_add_mod (2 ^ b) d
  have h2 := Nat.mod_lt (2 ^ b) hd
  generalize 2 ^ b / d = q at *
  generalize 2 ^ b % d = r at *
  rw [← h1, Nat.add_mul, Nat.mul_assoc, Nat.mul_add_div hd]
  have h3 : r * 2 ^ c / d < 2 ^ c := by
    rw [Nat.div_lt_iff_lt_mul hd, Nat.mul_comm (2 ^ c)]
    exact Nat.mul_lt_mul_of_pos_right h2 (Nat.two_pow_pos c)
  rw [Nat.mul_comm q]
  generalize r * 2 ^ c / d = k at *
  generalize 2 ^ c = w at *
  omega
/-- a sum of so many terms is the same, but for so many units -/
theorem serN_up {b c n : Nat} (h : 0 < n) : ∀ t j, -((2 ^ c * t : Nat) : Int) ≤ serN (b + c) n j t - (2 ^ c : Nat) * serN b n j t ∧ serN (b + c) n j t - (2 ^ c : Nat) * serN b n j t ≤ ((2 ^ c * t : Nat) : Int)
  | 0, j => by simp [serN]
  | t + 1, j => by
    have ih := serN_up h t (j + 1) (b := b) (c := c)
    have ht := term_up (b := b) (c := c) (j := j) h
    simp only [serN]
    rw [Nat.mul_add (2 ^ c) t, Nat.mul_one, Int.mul_add]
    have e : ((2 ^ c : Nat) : Int) * (term b n j : Int) = ((2 ^ c * term b n j : Nat) : Int) := by rw [Int.natCast_mul]
    generalize ((2 ^ c : Nat) : Int) * serN b n (j + 1) t = y at *
    generalize serN (b + c) n (j + 1) t = x at *
    split
    · rw [e]
      omega
    · rw [Int.mul_neg, e]
      omega
/-- later terms are less -/
theorem term_down {b n j : Nat} (h : 5 ≤ n) : 2 * term b n (j + 1) ≤ term b n j := by
  unfold term
  have hd : 0 < (2 * j + 1) * n ^ (2 * j + 1) := Nat.mul_pos (by omega) (Nat.pow_pos (by omega))
  have he : 2 * ((2 * j + 1) * n ^ (2 * j + 1)) ≤ (2 * (j + 1) + 1) * n ^ (2 * (j + 1) + 1) := by
    rw [show 2 * (j + 1) + 1 = 2 * j + 1 + 2 by omega, Nat.pow_add n (2 * j + 1) 2]
    have h2 : 2 ≤ n ^ 2 := Nat.le_trans (by decide : 2 ≤ 5 ^ 2) (Nat.pow_le_pow_left h 2)
    have h3 : n ^ (2 * j + 1) * 2 ≤ n ^ (2 * j + 1) * n ^ 2 := Nat.mul_le_mul_left _ h2
    have h4 := Nat.mul_le_mul (show 2 * j + 1 ≤ 2 * j + 1 + 2 by omega) h3
    rw [← Nat.mul_assoc, Nat.mul_comm _ 2] at h4
    exact h4
  have h5 : 2 ^ b / ((2 * (j + 1) + 1) * n ^ (2 * (j + 1) + 1)) ≤ 2 ^ b / ((2 * j + 1) * n ^ (2 * j + 1)) / 2 := by
    rw [Nat.div_div_eq_div_mul, Nat.mul_comm _ 2]
    exact Nat.div_le_div_left he (Nat.mul_pos (by decide) hd)
  omega
/-- what is left behind a term is at most that term -/
theorem serN_rest {b n : Nat} (h : 5 ≤ n) : ∀ t j, -((2 * term b n j : Nat) : Int) ≤ serN b n j t ∧ serN b n j t ≤ ((2 * term b n j : Nat) : Int)
  | 0, j => by simp only [serN]; omega
  | t + 1, j => by
    have ih := serN_rest h t (j + 1) (b := b)
    have hd := term_down (b := b) (j := j) h
    simp only [serN]
    split <;> omega
theorem serN_split (b n : Nat) : ∀ t j u, serN b n j (t + u) = serN b n j t + serN b n (j + t) u
  | 0, j, u => by simp [serN]
  | t + 1, j, u => by
    rw [show t + 1 + u = (t + u) + 1 by omega, serN, serN, serN_split b n t (j + 1) u, show j + 1 + t = j + (t + 1) by omega]
    omega
/-- a term that is nought at one precision is less than a unit at a higher one -/
theorem term_small {b c n j : Nat} (h : 0 < n) (h0 : term b n j = 0) : term (b + c) n j < 2 ^ c := by
  have := (term_up (b := b) (c := c) (j := j) h).2
  rw [h0] at this
  omega
/-- the sum at one precision, and at a higher one with more terms -/
theorem ser_near {b c n t u : Nat} (h : 5 ≤ n) (h0 : term b n t = 0) :
    -((2 ^ c * (t + 2) : Nat) : Int) ≤ serN (b + c) n 0 (t + u) - (2 ^ c : Nat) * serN b n 0 t ∧ serN (b + c) n 0 (t + u) - (2 ^ c : Nat) * serN b n 0 t ≤ ((2 ^ c * (t + 2) : Nat) : Int) := by
  have h1 := serN_up (b := b) (c := c) (show 0 < n by omega) t 0
  have h2 := serN_rest (b := b + c) h u (0 + t)
  have h3 := term_small (c := c) (show 0 < n by omega) h0
  rw [serN_split]
  rw [Nat.zero_add] at h2 ⊢
  rw [Nat.mul_add]
  omega
end Go.Dy

namespace Go.Dy
open Go Go.RowKit
set_option maxRecDepth 100000
/-- a series, term by term: 'p' is what the next term is added to -/
def serK (nn : Nat) : Nat → Nat → Nat → Nat → Nat → Nat × Nat × Nat
  | 0, _, k, p, m => (k, p, m)
  | f + 1, pw, k, p, m =>
    match pw with
    | 0 => (k, p, m)
    | q + 1 =>
      match p + (q + 1) / k with
      | 0 => (k, 0, m)
      | p' + 1 => serK nn f ((q + 1) / nn) (k + 2) m (p' + 1)
def serE (x : Nat × Nat × Nat) : Int := if x.1 % 4 = 1 then (x.2.1 : Int) - x.2.2 else (x.2.2 : Int) - x.2.1
def serV (b n f : Nat) : Int := serE (serK (n * n) f (2 ^ b / n) 1 0 0)
theorem serK_spec {b n : Nat} : ∀ f j p m, ∃ t, t ≤ f ∧ (term b n (j + t) = 0 ∨ t = f) ∧ serE (serK (n * n) f (2 ^ b / n ^ (2 * j + 1)) (2 * j + 1) p m) = serE (2 * j + 1, p, m) + serN b n j t
  | 0, j, p, m => ⟨0, Nat.le_refl _, .inr rfl, by simp [serK, serN]⟩
  | f + 1, j, p, m => by
    have ht : term b n j = 2 ^ b / n ^ (2 * j + 1) / (2 * j + 1) := by unfold term; rw [Nat.div_div_eq_div_mul, Nat.mul_comm]
    have hn : 2 ^ b / n ^ (2 * (j + 1) + 1) = 2 ^ b / n ^ (2 * j + 1) / (n * n) := by
      rw [Nat.div_div_eq_div_mul, show 2 * (j + 1) + 1 = 2 * j + 1 + 2 by omega, Nat.pow_add n (2 * j + 1) 2, Nat.pow_two]
    cases hpw : 2 ^ b / n ^ (2 * j + 1) with
    | zero => exact ⟨0, Nat.zero_le _, .inl (by rw [Nat.add_zero, ht, hpw, Nat.zero_div]), by simp [serK, serN]⟩
    | succ q =>
      rw [hpw] at ht hn
      cases hp : p + (q + 1) / (2 * j + 1) with
      | zero =>
        refine ⟨0, Nat.zero_le _, .inl (by rw [Nat.add_zero, ht]; omega), ?_⟩
        have hp0 : p = 0 := by omega
        subst hp0
        simp only [serK, hp, serN, Int.add_zero]
      | succ p' =>
        obtain ⟨t, h1, h2, h3⟩ := serK_spec f (j + 1) m (p' + 1) (b := b) (n := n)
        refine ⟨t + 1, by omega, ?_, ?_⟩
        · rcases h2 with h2 | h2
          · exact .inl (by rw [show j + (t + 1) = j + 1 + t by omega]; exact h2)
          · exact .inr (by omega)
        · simp only [serK, hp]
          rw [hn, show 2 * (j + 1) + 1 = 2 * j + 1 + 2 by omega] at h3
          rw [h3, serN, ht]
          unfold serE
          simp only
          by_cases c : j % 2 = 0
          · rw [if_neg (by omega), if_pos (by omega), if_pos c]
            omega
          · rw [if_pos (by omega), if_neg (by omega), if_neg c]
            omega
theorem serK_count (nn : Nat) : ∀ f pw k p m, (serK nn f pw k p m).1 ≤ k + 2 * f
  | 0, _, _, _, _ => Nat.le_refl _
  | f + 1, pw, k, p, m => by
    cases pw with
    | zero => simp only [serK]; omega
    | succ q =>
      cases hp : p + (q + 1) / k with
      | zero => simp only [serK, hp]; omega
      | succ p' =>
        simp only [serK, hp]
        have := serK_count nn f ((q + 1) / nn) (k + 2) m (p' + 1)
        omega
theorem serV_eq {b n f : Nat} (h : 5 ≤ n) (h0 : term b n f = 0) {t : Nat} (ht : f ≤ t) : serN b n 0 t = serV b n f := by
  obtain ⟨t0, h1, h2, h3⟩ := serK_spec f 0 0 0 (b := b) (n := n)
  have e : serV b n f = serN b n 0 t0 := by
    unfold serV
    rw [Nat.mul_zero, Nat.zero_add, Nat.pow_one] at h3
    rw [h3]
    simp [serE]
  have hz : term b n t0 = 0 := by
    rcases h2 with h2 | h2
    · rwa [Nat.zero_add] at h2
    · rw [h2]; exact h0
  have hr := serN_rest (b := b) h (t - t0) (0 + t0)
  rw [Nat.zero_add, hz] at hr
  have hs := serN_split b n t0 0 (t - t0)
  rw [show t0 + (t - t0) = t by omega, Nat.zero_add] at hs
  omega
/-- the precision that all others are held against -/
def prec : Nat := 13000
/-- 2^13000 times the circle's constant, and a little -/
def piN : Int := 16 * serV prec 5 4000 - 4 * serV prec 239 2000
/-- the same by the document's arcs -/
def piR : Int := 24 * serV prec 8 4000 + 8 * serV prec 57 2000 + 4 * serV prec 239 2000
theorem pi_same : decide ((piN - piR).natAbs ≤ 100000) = true := by kernel_rfl
theorem pi_range : (decide (3 * 2 ^ prec < piN.toNat) && decide (piN.toNat < 4 * 2 ^ prec)) = true := by kernel_rfl
theorem term_end5 : decide (term prec 5 4000 = 0) = true := by kernel_rfl
theorem term_end8 : decide (term prec 8 4000 = 0) = true := by kernel_rfl
theorem term_end57 : decide (term prec 57 2000 = 0) = true := by kernel_rfl
theorem term_end239 : decide (term prec 239 2000 = 0) = true := by kernel_rfl
end Go.Dy

namespace Go.Dy
open Go Go.RowKit
set_option maxRecDepth 100000
def runOk : Nat → Nat → Bool
  | 0, _ => true
  | f + 1, x =>
    match x with
    | 0 => false
    | y + 1 => (decide (524288 ≤ (y + 1) % 73786976294838206464) && decide ((y + 1) % 73786976294838206464 ≤ 73786976294838206464 - 524288)) && runOk f ((y + 1) / 2)
theorem runOk_spec : ∀ f x, runOk f x = true → ∀ i, i < f → 2 ^ 19 ≤ x / 2 ^ i % 2 ^ 66 ∧ x / 2 ^ i % 2 ^ 66 ≤ 2 ^ 66 - 2 ^ 19
  | 0, _, _, i, hi => absurd hi (Nat.not_lt_zero i)
  | f + 1, x, h, i, hi => by
    cases x with
    | zero => exact absurd h (by simp [runOk])
    | succ y =>
      simp only [runOk, Bool.and_eq_true, decide_eq_true_eq] at h
      cases i with
      | zero => rw [Nat.pow_zero, Nat.div_one]; exact h.1
      | succ i =>
        have := runOk_spec f ((y + 1) / 2) h.2 i (by omega)
        rw [Nat.div_div_eq_div_mul, ← Nat.pow_succ'] at this
        exact this
/-- at each precision b from 1 to 10896 bits: the 66 bits behind (step 10896 - b) -/
theorem pi_runs : runOk 10896 (piN.toNat / 2 ^ (prec - 10960)) = true := by kernel_rfl
end Go.Dy

namespace Go.Dy
open Go Go.RowKit
set_option maxRecDepth 100000
/-- a fraction p/q near to 2^g times a quarter of the circle keeps all numbers over 2^g away from k quarters, k < q -/
theorem far_of {p q g : Nat} {B P : Nat} (hg : Nat.gcd p q = 1) {k : Nat} (hk0 : 0 < k) (hkq : k < q) (hw : 2 * (k * ((P : Int) * 2 ^ g * q - p * B).natAbs) ≤ B) (A : Int) :
    B ≤ 2 * q * (A * B - k * (P * 2 ^ g)).natAbs := by
  have hz : A * q - k * p ≠ 0 := by
    intro e
    have h1 : (q : Int) ∣ ((k * p : Nat) : Int) := ⟨A, by rw [Int.natCast_mul, Int.mul_comm (q : Int) A]; omega⟩
    have h2 : q ∣ k * p := Int.natCast_dvd_natCast.1 h1
    have h3 : q ∣ k := (Nat.Coprime.symm hg).dvd_of_dvd_mul_right h2
    exact absurd (Nat.le_of_dvd hk0 h3) (by omega)
  have e : (q : Int) * (A * B - k * (P * 2 ^ g)) = B * (A * q - k * p) - k * (P * 2 ^ g * q - p * B) := by
    simp only [Int.mul_sub]
    have a1 : (q : Int) * (A * B) = B * (A * q) := by rw [Int.mul_comm, Int.mul_right_comm, Int.mul_comm _ (B : Int)]
    have a2 : (q : Int) * (k * (P * 2 ^ g)) = k * (P * 2 ^ g * q) := by rw [Int.mul_comm, Int.mul_assoc]
    have a3 : (k : Int) * (p * B) = B * (k * p) := by rw [← Int.mul_assoc, Int.mul_comm]
    rw [a1, a2, a3]
    omega
  have h1 : B ≤ (B * (A * q - k * p) : Int).natAbs := by
    rw [Int.natAbs_mul, Int.natAbs_natCast]
    exact Nat.le_mul_of_pos_right _ (by omega)
  have h2 : (k * ((P : Int) * 2 ^ g * q - p * B)).natAbs = k * ((P : Int) * 2 ^ g * q - p * B).natAbs := by rw [Int.natAbs_mul, Int.natAbs_natCast]
  have h3 : 2 * q * (A * B - k * (P * 2 ^ g)).natAbs = 2 * ((q : Int) * (A * B - k * (P * 2 ^ g))).natAbs := by rw [Int.natAbs_mul, Int.natAbs_natCast, Nat.mul_assoc]
  rw [h3, e]
  rw [← h2] at hw
  generalize (B * (A * q - k * p) : Int) = x at *
  generalize ((k : Int) * (P * 2 ^ g * q - p * B)) = y at *
  omega
def kTop : Nat := 2 ^ 1101
def qTop : Nat := 2 ^ 1103
theorem kTop_pos : decide (0 < kTop) = true := by kernel_rfl
def farP1280 : Nat := 3223098131956926513858239489594459810077471683744659006593608382036356155672834488569067376991067451513098765796195429860876046608339403993248635490851641521998148001935261909439276349739165355920463605808025108899206383688247362009617538422208999492919353374781953941775877505329788782430120982742676783749703932579208012156382995577694147766617466782429980716863092109087317188824369245296732039612011159535289916011412757345133283126206271056462213544508567949191591583473669003447039716166472173218471395275938929270197050245229915081295942145726268925700385880419498356921841089657584862528652778325615222802454777744675100151182902720202650499473168512736912196743501965291142309666573091117828073568297612904817
def farQ1280 : Nat := 98573278568085337956620852198892230276278208863651840810687004578447892600450436928777431250902785823935376065874365707005692561838166219279798381756658066005389116955214204609940748128098652864544742004332124680583309169371544102022609607921294326397306506789025676117863707788685793507849287542934868863704200440218431074111809882
theorem far_ok1280 : (decide (Nat.gcd farP1280 farQ1280 = 1) && (decide (2 * kTop ≤ farQ1280) && (decide (farQ1280 < qTop) && decide (2 * kTop * (piN * 2 ^ 1280 * farQ1280 - farP1280 * (2 ^ (prec + 1) : Nat)).natAbs ≤ 2 ^ (prec + 1))))) = true := by kernel_rfl
def farP3900 : Nat := 912642310680626385618352331772248620192045812289259276982250612467891095770930003406387863765844480504633924679152542858924664564866803998933040604070815310202781564556270511890600752044869526567804595607933987920805092860960677966648330430738662652043654469940586725280141925511859226050017584690351521010096003818019886787713345140177039064139379861111164327650107981567726209135683825470881193178570607051727370098444150706669029807347340255583850822628554908447905675079819976659405191361731970674942818570462199796254729709506550891732509554825321437225471265387438518503287381081190764048756230371587896390577454639825388237379639669816146598989569169830695539249583776364220128516314892685264515507952426125168145039006662996233469723480980073281816851665799119163996952096756164017528463682062619874070867030876974791731214177713222484933759525033785395404547323888769222094916194484559557148582506722434425943029383157736124155926090402886641513125585643435155561067202085065569983896123011692833863928131523904577804312411220721858737493140372218504011187212751923127343518147864610141745397380033225881437268212288398448479590985481141602388943617175267354787388098548851873807036376949066217471343278395566556836911263464163520275466381518561320423743567285430125631592817524958797001828704667375803753868856615238854421114593631923558978414650362763012818863314759970704143577493401072613502311167557337396380959648833586124572839120550927584107347153455488147402701855683548945057436079035292
def farQ3900 : Nat := 55872439319307213680560230144031147763131591662141598592556114486786140230314793773112894942990850742406860442368641826015295214044620489284664981380104675443242940765245051566447060459042038089547227616325276852560321349484135878697374730838095334533932584216960645070788212818476749409523105760141807189677063077607836877874180437
theorem far_ok3900 : (decide (Nat.gcd farP3900 farQ3900 = 1) && (decide (2 * kTop ≤ farQ3900) && (decide (farQ3900 < qTop) && decide (2 * kTop * (piN * 2 ^ 3900 * farQ3900 - farP3900 * (2 ^ (prec + 1) : Nat)).natAbs ≤ 2 ^ (prec + 1))))) = true := by kernel_rfl
end Go.Dy

namespace Go.Dy
/-- one series at a precision, and at the one that all are held against -/
theorem ser_prec {b c n t f : Nat} (hn : 5 ≤ n) (hb : b + c = prec) (h0 : term b n t = 0) (hf : term prec n f = 0) :
    -((2 ^ c * (t + 2) : Nat) : Int) ≤ serV prec n f - (2 ^ c : Nat) * serN b n 0 t ∧ serV prec n f - (2 ^ c : Nat) * serN b n 0 t ≤ ((2 ^ c * (t + 2) : Nat) : Int) := by
  have h := ser_near (c := c) (u := f) hn h0
  rw [hb, serV_eq hn hf (show f ≤ t + f by omega)] at h
  exact h
theorem pi_arcs {b c t5 t239 : Nat} (hb : b + c = prec) (h5 : term b 5 t5 = 0) (h239 : term b 239 t239 = 0) :
    -((2 ^ c * (16 * (t5 + 2) + 4 * (t239 + 2)) : Nat) : Int) ≤ piN - (2 ^ c : Nat) * (16 * serN b 5 0 t5 - 4 * serN b 239 0 t239) ∧
    piN - (2 ^ c : Nat) * (16 * serN b 5 0 t5 - 4 * serN b 239 0 t239) ≤ ((2 ^ c * (16 * (t5 + 2) + 4 * (t239 + 2)) : Nat) : Int) := by
  have a := ser_prec (by decide) hb h5 (of_decide_eq_true term_end5)
  have d := ser_prec (by decide) hb h239 (of_decide_eq_true term_end239)
  unfold piN
  rw [Int.mul_sub, Int.mul_left_comm, Int.mul_left_comm ((2 ^ c : Nat) : Int) 4]
  rw [Nat.mul_add, Nat.mul_left_comm, Nat.mul_left_comm (2 ^ c) 4]
  generalize ((2 ^ c : Nat) : Int) * serN b 5 0 t5 = x at *
  generalize ((2 ^ c : Nat) : Int) * serN b 239 0 t239 = y at *
  generalize 2 ^ c * (t5 + 2) = u at *
  generalize 2 ^ c * (t239 + 2) = v at *
  generalize serV prec 5 4000 = X at *
  generalize serV prec 239 2000 = Y at *
  omega
theorem pi_book {b c t8 t57 t239 : Nat} (hb : b + c = prec) (h8 : term b 8 t8 = 0) (h57 : term b 57 t57 = 0) (h239 : term b 239 t239 = 0) :
    -((2 ^ c * (24 * (t8 + 2) + 8 * (t57 + 2) + 4 * (t239 + 2)) + 100000 : Nat) : Int) ≤ piN - (2 ^ c : Nat) * (24 * serN b 8 0 t8 + 8 * serN b 57 0 t57 + 4 * serN b 239 0 t239) ∧
    piN - (2 ^ c : Nat) * (24 * serN b 8 0 t8 + 8 * serN b 57 0 t57 + 4 * serN b 239 0 t239) ≤ ((2 ^ c * (24 * (t8 + 2) + 8 * (t57 + 2) + 4 * (t239 + 2)) + 100000 : Nat) : Int) := by
  have a := ser_prec (by decide) hb h8 (of_decide_eq_true term_end8)
  have g := ser_prec (by decide) hb h57 (of_decide_eq_true term_end57)
  have d := ser_prec (by decide) hb h239 (of_decide_eq_true term_end239)
  have hs := of_decide_eq_true pi_same
  have e : piR = 24 * serV prec 8 4000 + 8 * serV prec 57 2000 + 4 * serV prec 239 2000 := rfl
  generalize piN = P at *
  generalize piR = R at *
  rw [Int.mul_add, Int.mul_add, Int.mul_left_comm, Int.mul_left_comm ((2 ^ c : Nat) : Int) 8, Int.mul_left_comm ((2 ^ c : Nat) : Int) 4]
  rw [Nat.mul_add, Nat.mul_add, Nat.mul_left_comm, Nat.mul_left_comm (2 ^ c) 8, Nat.mul_left_comm (2 ^ c) 4]
  generalize ((2 ^ c : Nat) : Int) * serN b 8 0 t8 = x at *
  generalize ((2 ^ c : Nat) : Int) * serN b 57 0 t57 = z at *
  generalize ((2 ^ c : Nat) : Int) * serN b 239 0 t239 = y at *
  generalize 2 ^ c * (t8 + 2) = u at *
  generalize 2 ^ c * (t57 + 2) = w at *
  generalize 2 ^ c * (t239 + 2) = v at *
  generalize serV prec 8 4000 = X at *
  generalize serV prec 57 2000 = Z at *
  generalize serV prec 239 2000 = Y at *
  omega
theorem far_tool {p q g B P K L : Nat} {T : Int} (hT : ((P : Nat) : Int) = T) (h1 : Nat.gcd p q = 1) (h2 : 2 * K ≤ q) (h3 : q < L) (hK : 0 < K) (h4 : 2 * K * (T * 2 ^ g * q - p * B).natAbs ≤ B) {k : Nat} (hk0 : 0 < k) (hk : k ≤ K) (A : Int) :
    B ≤ 2 * L * (A * B - k * (P * 2 ^ g)).natAbs := by
  rw [← hT] at h4
  have h5 : 2 * (k * ((P : Int) * 2 ^ g * q - p * B).natAbs) ≤ B := by
    have := Nat.mul_le_mul_right (((P : Int) * 2 ^ g * q - p * B).natAbs) (Nat.mul_le_mul_left 2 hk)
    rw [Nat.mul_assoc] at this
    exact Nat.le_trans this h4
  have := far_of h1 hk0 (by omega) h5 A
  exact Nat.le_trans this (Nat.mul_le_mul_right _ (Nat.mul_le_mul_left 2 (Nat.le_of_lt h3)))
theorem piN_nat : ((piN.toNat : Nat) : Int) = piN := by
  have h := pi_range
  simp only [Bool.and_eq_true, decide_eq_true_eq] at h
  have := h.1
  generalize piN = P at *
  omega
/-- an angle over 2^1280 does not lie near to k quarters, 0 < k <= 2^1101 -/
theorem far_angle {k : Nat} (hk0 : 0 < k) (hk : k ≤ kTop) (A : Int) : 2 ^ (prec + 1) ≤ 2 * qTop * (A * (2 ^ (prec + 1) : Nat) - k * (piN.toNat * 2 ^ 1280)).natAbs := by
  have hw := far_ok1280
  simp only [Bool.and_eq_true, decide_eq_true_eq] at hw
  exact far_tool piN_nat hw.1 hw.2.1 hw.2.2.1 (of_decide_eq_true kTop_pos) hw.2.2.2 hk0 hk A
/-- nor does any number over 2^3900 -/
theorem far_cut {k : Nat} (hk0 : 0 < k) (hk : k ≤ kTop) (A : Int) : 2 ^ (prec + 1) ≤ 2 * qTop * (A * (2 ^ (prec + 1) : Nat) - k * (piN.toNat * 2 ^ 3900)).natAbs := by
  have hw := far_ok3900
  simp only [Bool.and_eq_true, decide_eq_true_eq] at hw
  exact far_tool piN_nat hw.1 hw.2.1 hw.2.2.1 (of_decide_eq_true kTop_pos) hw.2.2.2 hk0 hk A
end Go.Dy

namespace Go.Dy
theorem pow_step (b n j : Nat) : 2 ^ b / n ^ (2 * j + 1) / (n * n) = 2 ^ b / n ^ (2 * (j + 1) + 1) := by
  rw [Nat.div_div_eq_div_mul, show 2 * (j + 1) + 1 = 2 * j + 1 + 2 by omega, Nat.pow_add n (2 * j + 1) 2, Nat.pow_two]
theorem term_eq (b n j : Nat) : 2 ^ b / n ^ (2 * j + 1) / (2 * j + 1) = term b n j := by
  unfold term
  rw [Nat.div_div_eq_div_mul, Nat.mul_comm]
/-- the terms, from one on -/
theorem arc_ser {b n : Nat} (hn : 2 ≤ n) : ∀ (N j p m t : Nat), bl (2 ^ b / n ^ (2 * j + 1)) ≤ N → ∃ T : Nat, T ≤ bl (2 ^ b / n ^ (2 * j + 1)) ∧ 2 ^ b / n ^ (2 * (j + T) + 1) = 0 ∧ (T = 0 ∨ 2 ^ b / n ^ (2 * (j + T - 1) + 1) ≠ 0) ∧
    ∃ P M : Nat, arcF (n * n) (bl (2 ^ b / n ^ (2 * j + 1))) (2 ^ b / n ^ (2 * j + 1)) p m t (2 * j + 1) = ⟨p + P, m + M, t + T, 2 * (j + T) + 1⟩ ∧
      (P : Int) - M = serN b n j T ∧ P ≤ 2 * (2 ^ b / n ^ (2 * j + 1)) ∧ M ≤ 2 * (2 ^ b / n ^ (2 * j + 1))
  | 0, j, p, m, t, h => by
    have hx : 2 ^ b / n ^ (2 * j + 1) = 0 := by
      refine Decidable.byContradiction fun c => ?_
      have := bl_pos.2 c
      omega
    refine ⟨0, Nat.zero_le _, by rw [Nat.add_zero]; exact hx, .inl rfl, 0, 0, ?_, by simp [serN], Nat.zero_le _, Nat.zero_le _⟩
    rw [hx, bl_zero]
    rfl
  | N + 1, j, p, m, t, h => by
    have hkk : 2 ≤ n * n := Nat.le_trans hn (Nat.le_mul_of_pos_right _ (by omega))
    by_cases c : 2 ^ b / n ^ (2 * j + 1) = 0
    · refine ⟨0, Nat.zero_le _, by rw [Nat.add_zero]; exact c, .inl rfl, 0, 0, ?_, by simp [serN], Nat.zero_le _, Nat.zero_le _⟩
      rw [c, bl_zero]
      rfl
    · rw [arcF_step hkk c, term_eq]
      have hlt := bl_div_lt hkk c
      have hhalf : 2 * (2 ^ b / n ^ (2 * j + 1) / (n * n)) ≤ 2 ^ b / n ^ (2 * j + 1) := by
        have : 2 ^ b / n ^ (2 * j + 1) / (n * n) ≤ 2 ^ b / n ^ (2 * j + 1) / 2 := Nat.div_le_div_left hkk (by decide)
        omega
      have ht : term b n j ≤ 2 ^ b / n ^ (2 * j + 1) := by rw [← term_eq]; exact Nat.div_le_self _ _
      rw [pow_step] at hlt hhalf ⊢
      rw [show 2 * j + 1 + 2 = 2 * (j + 1) + 1 by omega]
      by_cases c4 : (2 * j + 1) % 4 = 3
      · rw [if_pos c4]
        obtain ⟨T, h1, h2, h3, P, M, h4, h5, h6, h7⟩ := arc_ser (b := b) hn N (j + 1) p (m + term b n j) (t + 1) (by omega)
        refine ⟨T + 1, by omega, by rw [show j + (T + 1) = j + 1 + T by omega]; exact h2, .inr ?_, P, term b n j + M, ?_, ?_, by omega, by omega⟩
        · rcases h3 with h3 | h3
          · subst h3; exact c
          · rw [show j + (T + 1) - 1 = j + 1 + T - 1 by omega]; exact h3
        · rw [h4]
          congr 1 <;> omega
        · rw [serN, if_neg (by omega), ← h5]
          omega
      · rw [if_neg c4]
        obtain ⟨T, h1, h2, h3, P, M, h4, h5, h6, h7⟩ := arc_ser (b := b) hn N (j + 1) (p + term b n j) m (t + 1) (by omega)
        refine ⟨T + 1, by omega, by rw [show j + (T + 1) = j + 1 + T by omega]; exact h2, .inr ?_, term b n j + P, M, ?_, ?_, by omega, by omega⟩
        · rcases h3 with h3 | h3
          · subst h3; exact c
          · rw [show j + (T + 1) - 1 = j + 1 + T - 1 by omega]; exact h3
        · rw [h4]
          congr 1 <;> omega
        · rw [serN, if_pos (by omega), ← h5]
          omega
theorem serN_nonneg {b n : Nat} (h : 5 ≤ n) (T : Nat) : 0 ≤ serN b n 0 T := by
  cases T with
  | zero => simp [serN]
  | succ T =>
    have h1 := serN_rest (b := b) h T 1
    have h2 := term_down (b := b) (j := 0) h
    simp only [serN]
    rw [if_pos (by decide)]
    simp only [Nat.zero_add] at h2 ⊢
    omega
/-- the arc's sum -/
theorem arcA_spec {b n : Nat} (hn : 5 ≤ n) : (arcA b n).minus ≤ (arcA b n).plus ∧ (arcV b n : Int) = serN b n 0 (arcT b n) ∧ term b n (arcT b n) = 0 ∧ arcT b n ≤ (b + 2) / 4 ∧ (arcA b n).plus ≤ 2 * 2 ^ b ∧ (arcA b n).minus ≤ 2 * 2 ^ b := by
  obtain ⟨T, h1, h2, h3, P, M, h4, h5, h6, h7⟩ := arc_ser (b := b) (show 2 ≤ n by omega) _ 0 0 0 0 (Nat.le_refl _)
  have hA : arcA b n = ⟨P, M, T, 2 * T + 1⟩ := by
    unfold arcA
    simp only [Nat.mul_zero, Nat.zero_add, Nat.pow_one] at h4
    exact h4
  have hs := serN_nonneg (b := b) hn T
  have hx : 2 ^ b / n ^ (2 * 0 + 1) ≤ 2 ^ b := Nat.div_le_self _ _
  unfold arcV arcT
  rw [hA]
  simp only
  refine ⟨by omega, by omega, ?_, ?_, by omega, by omega⟩
  · rw [← term_eq]
    rw [Nat.zero_add] at h2
    rw [h2, Nat.zero_div]
  · rcases h3 with h3 | h3
    · omega
    · rw [Nat.zero_add] at h3
      have h8 : n ^ (2 * (T - 1) + 1) ≤ 2 ^ b := by
        refine Decidable.byContradiction fun c => h3 (Nat.div_eq_of_lt (by omega))
      have h9 : 4 ^ (2 * (T - 1) + 1) ≤ n ^ (2 * (T - 1) + 1) := Nat.pow_le_pow_left (by omega) _
      have h10 : (4 : Nat) ^ (2 * (T - 1) + 1) = 2 ^ (2 * (2 * (T - 1) + 1)) := by rw [Nat.pow_mul]
      rw [h10] at h9
      have h11 := (Nat.pow_le_pow_iff_right (a := 2) (by decide)).1 (Nat.le_trans h9 h8)
      omega
end Go.Dy
namespace Go.AI
open Go Go.RowKit Go.Proofs
set_option linter.unusedVariables false
set_option maxRecDepth 100000
set_option maxHeartbeats 1000000
theorem ok_span_arc (args : List AV) (s : Spec) (h : sArc args = some s) (hp : andO s.pre True) : Contract Tryd.prog Inv 47 args s.res := by
  unfold sArc at h
  split at h
  · cases h
    rename_i n k
    obtain ⟨⟨n1, n2, hk⟩, -⟩ := hp
    refine contract_at false 86 lamArc ok_tabR1 Tryd.func47 (by kernel_rfl) rfl (loops1 (by kernel_rfl) (by kernel_rfl) loop_span_arc) fun hok => ?_
    have hk5 : 5 ≤ k.toNat := by omega
    have hs := Dy.arcA_spec (b := n.toNat) hk5
    have a1 := hs.1
    have a4 := hs.2.2.2.1
    have a5 := hs.2.2.2.2.1
    have a6 := hs.2.2.2.2.2
    clear hs
    have hbk : Dy.bl k.toNat ≤ 131072 := by
      have := Dy.bl_mono (show k.toNat ≤ 255 by omega)
      rw [show Dy.bl 255 = 8 from Dy.bl_eq (by decide) (by decide)] at this
      omega
    have b2 : Dy.bl (2 ^ n.toNat) = n.toNat + 1 := by
      have := Dy.bl_mul_two_pow (n := 1) (by decide) n.toNat
      rw [Nat.one_mul, show Dy.bl 1 = 1 from rfl] at this
      omega
    have b4 : Dy.bl (2 * 2 ^ n.toNat) = n.toNat + 2 := by
      have := Dy.bl_mul_two_pow (n := 1) (by decide) (n.toNat + 1)
      rw [Nat.one_mul, show Dy.bl 1 = 1 from rfl, Nat.pow_succ, Nat.mul_comm] at this
      omega
    have m1 : Dy.may (Dy.dg 1) = true := by decide
    have hsh : (Dy.shiftN (Dy.dg 1) n).mag = Dy.dg (2 ^ n.toNat) := by
      have := Dy.shiftN_up m1 n.toNat (by rw [Dy.val_dg, show Dy.bl 1 = 1 from rfl]; omega)
      rw [Dy.val_dg, Nat.one_mul, show ((n.toNat : Nat) : Int) = n by omega] at this
      exact this
    rw [vc_span_arc, hsh]
    rintro _ rfl _ - _ -
    rw [Dy.quoR_dg (D := k.toNat) (by rw [Dy.val_dg]) (by rw [Dy.val_dg]; omega) (by omega) hbk, Dy.val_dg]
    rintro _ rfl _ - _ -
    have hq : 2 ^ n.toNat / k.toNat ≤ 2 ^ n.toNat := Nat.div_le_self _ _
    have hqb := Dy.bl_mono hq
    have hq2 := Dy.bl_mono (Nat.mul_le_mul_left 2 hq)
    refine ⟨⟨by rw [Dy.val_dg], Dy.dg_zero, Dy.dg_zero, by omega, by omega, by decide, by decide, by rw [Dy.val_dg]; omega, by decide, by rw [Dy.val_dg]; omega, by rw [Dy.val_dg, Nat.zero_add]; omega, by rw [Dy.val_dg, Nat.zero_add]; omega⟩, ?_⟩
    rw [Dy.val_dg]
    have hA : Dy.arcF (k.toNat * k.toNat) (Dy.bl (2 ^ n.toNat / k.toNat)) (2 ^ n.toNat / k.toNat) 0 0 0 1 = Dy.arcA n.toNat k.toNat := rfl
    rw [hA]
    have hp1 := Dy.bl_mono a5
    have hp2 := Dy.bl_mono a6
    have hsub : Dy.subR (Dy.dg (Dy.arcA n.toNat k.toNat).plus) (Dy.dg (Dy.arcA n.toNat k.toNat).minus) = (Dy.dg (Dy.arcV n.toNat k.toNat), 0) := by
      unfold Dy.subR Dy.subN
      rw [Dy.may_dgn.2 (Dy.len_bl.2 (by omega)), Dy.may_dgn.2 (Dy.len_bl.2 (by omega)), if_pos (show (true && true) = true from rfl), Dy.val_dg, Dy.val_dg, if_neg (by omega)]
      rfl
    rw [hsub]
    rintro _ rfl _ -
    have ht : (Dy.arcA n.toNat k.toNat).terms = Dy.arcT n.toNat k.toNat := rfl
    rw [ht, wrap_u64, wrap_u64]
    generalize Dy.arcT n.toNat k.toNat = T at *
    have e : (2 * (T : Int) % 18446744073709551616 + 2) % 18446744073709551616 = ((2 * T + 2 : Nat) : Int) := by omega
    rw [e]
  · cases h
theorem ok_tabR2 : PhiOk Tryd.prog Inv (look tabR2) :=
  look_cons (look_cons (look_cons (look_cons (look_cons (look_cons (look_cons ok_tabR1 ok_span_arc) ok_span_rest) ok_span_Nearest) ok_span_Scale) ok_span_Neg) ok_span_Sign) ok_span_out
end Go.AI

namespace Go.AI
open Go Go.RowKit Go.Proofs
set_option linter.unusedVariables false
set_option maxRecDepth 100000
set_option maxHeartbeats 1000000
theorem ok_span_Sub (args : List AV) (s : Spec) (h : sSubSp args = some s) (hp : andO s.pre True) : Contract Tryd.prog Inv 35 args s.res := by
  unfold sSubSp at h
  split at h
  · cases h
    obtain ⟨⟨p1, p2, p3, p4, p5, p6, h1, h2⟩, -⟩ := hp
    refine contract0 false ok_tabR2 Tryd.func35 (by kernel_rfl) (by kernel_rfl) fun hok => ?_
    rw [vc_span_Sub]
    refine ⟨⟨p1, p4, p5.1⟩, dpeel fun b l k d1 => ⟨⟨p2, p3, p6.1⟩, dpeel fun b' l' k' d2 => ?_⟩⟩
    rw [d1, d2]
    exact ⟨⟨p5, p6, h1, h2⟩, dpeel fun b3 l3 k3 d3 => dpeel fun b4 l4 k4 d4 => avS_of d3 d4⟩
  · cases h
/-- the loop over the products -/
def mmX (n : Int) (R : AV) : List Dy.Dyd → Dy.Dyd → Dy.Dyd → Prop
  | [], lo, hi => (Dy.mid lo ∧ Dy.mid hi ∧ 1 ≤ n ∧ n ≤ 8192) ∧ dyF (Dy.endD lo n false) fun b l k => dyF (Dy.endD hi n true) fun b' l' k' => AV.agg [.bool b, .dig [0] l, .num .i64 k, .bool b', .dig [0] l', .num .i64 k'] = R
  | d :: r, lo, hi => (Dy.mayD d = true ∧ Dy.mayD lo = true) ∧
    bif decide (Dy.cmpD d lo < 0) then (Dy.mayD hi = true ∧ Dy.mayD d = true) ∧ bif decide (Dy.cmpD hi d < 0) then mmX n R r d d else mmX n R r d hi
    else (Dy.mayD hi = true ∧ Dy.mayD d = true) ∧ bif decide (Dy.cmpD hi d < 0) then mmX n R r lo d else mmX n R r lo hi
theorem mmX_ok {n : Int} (h1 : 1 ≤ n) (h2 : n ≤ 8192) : ∀ (r : List Dy.Dyd) (lo hi : Dy.Dyd) (R : AV), (∀ d ∈ r, Dy.mid d) → Dy.mid lo → Dy.mid hi → avS [0] (Dy.endD (r.foldl Dy.minD lo) n false) (Dy.endD (r.foldl Dy.maxD hi) n true) = R → mmX n R r lo hi
  | [], lo, hi, R, _, m1, m2, hR => ⟨⟨m1, m2, h1, h2⟩, dpeel fun b3 l3 k3 d3 => dpeel fun b4 l4 k4 d4 => (avS_of d3 d4).trans hR⟩
  | d :: r, lo, hi, R, hr, m1, m2, hR => by
    have md := hr d (by simp)
    have hr' : ∀ x ∈ r, Dy.mid x := fun x hx => hr x (by simp [hx])
    refine ⟨⟨md.1, m1.1⟩, cond_i (fun c => ⟨⟨m2.1, md.1⟩, cond_i (fun c' => ?_) (fun c' => ?_)⟩) (fun c => ⟨⟨m2.1, md.1⟩, cond_i (fun c' => ?_) (fun c' => ?_)⟩)⟩
    · refine mmX_ok h1 h2 r d d R hr' md md ?_
      rw [← hR, List.foldl_cons, List.foldl_cons]
      have e1 : Dy.minD lo d = d := if_pos (of_decide_eq_true c)
      have e2 : Dy.maxD hi d = d := if_pos (of_decide_eq_true c')
      rw [e1, e2]
    · refine mmX_ok h1 h2 r d hi R hr' md m2 ?_
      rw [← hR, List.foldl_cons, List.foldl_cons]
      have e1 : Dy.minD lo d = d := if_pos (of_decide_eq_true c)
      have e2 : Dy.maxD hi d = hi := if_neg (of_decide_eq_false c')
      rw [e1, e2]
    · refine mmX_ok h1 h2 r lo d R hr' m1 md ?_
      rw [← hR, List.foldl_cons, List.foldl_cons]
      have e1 : Dy.minD lo d = lo := if_neg (of_decide_eq_false c)
      have e2 : Dy.maxD hi d = d := if_pos (of_decide_eq_true c')
      rw [e1, e2]
    · refine mmX_ok h1 h2 r lo hi R hr' m1 m2 ?_
      rw [← hR, List.foldl_cons, List.foldl_cons]
      have e1 : Dy.minD lo d = lo := if_neg (of_decide_eq_false c)
      have e2 : Dy.maxD hi d = hi := if_neg (of_decide_eq_false c')
      rw [e1, e2]
theorem ok_span_Mul (args : List AV) (s : Spec) (h : sMulSp args = some s) (hp : andO s.pre True) : Contract Tryd.prog Inv 36 args s.res := by
  unfold sMulSp at h
  split at h
  · cases h
    rename_i n s m e s' m' e' t l f t' l' f'
    obtain ⟨⟨p1, p2, p3, p4, p5, p6, p7, p8, h1, h2⟩, -⟩ := hp
    refine contract_at false 78 (lam [(6, .unroll 4)]) ok_tabR2 Tryd.func36 (by kernel_rfl) rfl (loops1u (k := 4) (by kernel_rfl) (by kernel_rfl)) fun hok => ?_
    have slow : ∀ {R : AV}, avS [0] (Dy.endD (Dy.min4 (Dy.mulD ⟨s, m, e⟩ ⟨t, l, f⟩) (Dy.mulD ⟨s, m, e⟩ ⟨t', l', f'⟩) (Dy.mulD ⟨s', m', e'⟩ ⟨t, l, f⟩) (Dy.mulD ⟨s', m', e'⟩ ⟨t', l', f'⟩)) n false)
        (Dy.endD (Dy.max4 (Dy.mulD ⟨s, m, e⟩ ⟨t, l, f⟩) (Dy.mulD ⟨s, m, e⟩ ⟨t', l', f'⟩) (Dy.mulD ⟨s', m', e'⟩ ⟨t, l, f⟩) (Dy.mulD ⟨s', m', e'⟩ ⟨t', l', f'⟩)) n true) = R →
        (Dy.mayD ⟨s, m, e⟩ = true ∧ Dy.mayD ⟨t, l, f⟩ = true ∧ Dy.mayD (Dy.mulD ⟨s, m, e⟩ ⟨t, l, f⟩) = true) ∧ dyF (Dy.mulD ⟨s, m, e⟩ ⟨t, l, f⟩) fun b1 l1 k1 =>
        (Dy.mayD ⟨s, m, e⟩ = true ∧ Dy.mayD ⟨t', l', f'⟩ = true ∧ Dy.mayD (Dy.mulD ⟨s, m, e⟩ ⟨t', l', f'⟩) = true) ∧ dyF (Dy.mulD ⟨s, m, e⟩ ⟨t', l', f'⟩) fun b2 l2 k2 =>
        (Dy.mayD ⟨s', m', e'⟩ = true ∧ Dy.mayD ⟨t, l, f⟩ = true ∧ Dy.mayD (Dy.mulD ⟨s', m', e'⟩ ⟨t, l, f⟩) = true) ∧ dyF (Dy.mulD ⟨s', m', e'⟩ ⟨t, l, f⟩) fun b3 l3 k3 =>
        (Dy.mayD ⟨s', m', e'⟩ = true ∧ Dy.mayD ⟨t', l', f'⟩ = true ∧ Dy.mayD (Dy.mulD ⟨s', m', e'⟩ ⟨t', l', f'⟩) = true) ∧ dyF (Dy.mulD ⟨s', m', e'⟩ ⟨t', l', f'⟩) fun b4 l4 k4 =>
        mmX n R [⟨b2, l2, k2⟩, ⟨b3, l3, k3⟩, ⟨b4, l4, k4⟩] ⟨b1, l1, k1⟩ ⟨b1, l1, k1⟩ := by
      intro R hR
      refine ⟨⟨p1, p3, p5.1⟩, dpeel fun b1 l1 k1 d1 => ⟨⟨p1, p4, p6.1⟩, dpeel fun b2 l2 k2 d2 => ⟨⟨p2, p3, p7.1⟩, dpeel fun b3 l3 k3 d3 => ⟨⟨p2, p4, p8.1⟩, dpeel fun b4 l4 k4 d4 => ?_⟩⟩⟩⟩
      rw [d1, d2, d3, d4]
      refine mmX_ok h1 h2 _ _ _ _ (fun d hd => ?_) p5 p5 hR
      simp only [List.mem_cons, List.mem_nil_iff, or_false] at hd
      rcases hd with rfl | rfl | rfl
      · exact p6
      · exact p7
      · exact p8
    rw [vc_span_Mul]
    cases s with
    | true => exact cond_f rfl (slow rfl)
    | false =>
      cases t with
      | true => exact cond_t rfl (cond_f rfl (slow rfl))
      | false =>
        refine cond_t rfl (cond_t rfl ⟨⟨p1, p3, p5.1⟩, dpeel fun b1 l1 k1 d1 => ⟨⟨p2, p4, p8.1⟩, dpeel fun b2 l2 k2 d2 => ?_⟩⟩)
        rw [d1, d2]
        exact ⟨⟨p5, p8, h1, h2⟩, dpeel fun b3 l3 k3 d3 => dpeel fun b4 l4 k4 d4 => avS_of d3 d4⟩
  · cases h
theorem ok_span_Div (args : List AV) (s : Spec) (h : sDivSp args = some s) (hp : andO s.pre True) : Contract Tryd.prog Inv 32 args s.res := by
  unfold sDivSp at h
  split at h
  · cases h
    rename_i n s m e s' m' e' t l f t' l' f'
    obtain ⟨⟨p1, p2, p3, p4, ht, ht', l0, l0', n1, n2, n3, n4, h1, h2⟩, -⟩ := hp
    refine contract0 false ok_tabR2 Tryd.func32 (by kernel_rfl) (by kernel_rfl) fun hok => ?_
    rw [vc_span_Div]
    refine cond_f ht' ?_
    cases s <;> cases s'
    · exact cond_f rfl (cond_f rfl ⟨⟨p1, p4, l0', n1, n4, h1, h2, ht'⟩, dpeel fun b3 l3 k3 d3 => ⟨⟨p2, p3, l0, n2, n3, h1, h2, ht⟩, dpeel fun b4 l4 k4 d4 => avS_of d3 d4⟩⟩)
    · exact cond_f rfl (cond_t rfl ⟨⟨p1, p4, l0', n1, n4, h1, h2, ht'⟩, dpeel fun b3 l3 k3 d3 => ⟨⟨p2, p4, l0', n2, n4, h1, h2, ht'⟩, dpeel fun b4 l4 k4 d4 => avS_of d3 d4⟩⟩)
    · exact cond_t rfl (cond_f rfl ⟨⟨p1, p3, l0, n1, n3, h1, h2, ht⟩, dpeel fun b3 l3 k3 d3 => ⟨⟨p2, p3, l0, n2, n3, h1, h2, ht⟩, dpeel fun b4 l4 k4 d4 => avS_of d3 d4⟩⟩)
    · exact cond_t rfl (cond_t rfl ⟨⟨p1, p3, l0, n1, n3, h1, h2, ht⟩, dpeel fun b3 l3 k3 d3 => ⟨⟨p2, p4, l0', n2, n4, h1, h2, ht'⟩, dpeel fun b4 l4 k4 d4 => avS_of d3 d4⟩⟩)
  · cases h
theorem ok_span_Cut (args : List AV) (s : Spec) (h : sCutSp args = some s) (hp : andO s.pre True) : Contract Tryd.prog Inv 18 args s.res := by
  unfold sCutSp at h
  split at h
  · cases h
    rename_i s m e s' m' e' b
    obtain ⟨⟨p1, p2, h1, h2⟩, -⟩ := hp
    refine contract0 false ok_tabR2 Tryd.func18 (by kernel_rfl) (by kernel_rfl) fun hok => ?_
    rw [vc_span_Cut]
    refine ⟨⟨p1.1, p2.1⟩, ?_⟩
    refine cond_i (fun h => ?_) (fun h => ?_)
    · rw [h]
      rfl
    · rw [h, Dy.cutD_eq p1 ⟨h1, h2⟩, Dy.cutD_eq p2 ⟨h1, h2⟩]
      refine dpeel fun b1 l1 k1 d1 => ?_
      rintro _ - _ -
      refine dpeel fun b2 l2 k2 d2 => ?_
      rintro _ - _ -
      have q1 : Dy.mayD (Dy.Dyd.mk b1 l1 k1) = true := by rw [d1]; exact Dy.cut_may p1 h1
      have q2 : Dy.mayD (Dy.Dyd.mk b2 l2 k2) = true := by rw [d2]; exact Dy.cut_may p2 h1
      rw [q1, q2]
      rintro _ rfl _ -
      rw [avD_of d1, d1, d2]
      rfl
  · cases h
theorem ok_tabR3 : PhiOk Tryd.prog Inv (look tabR3) := look_cons (look_cons (look_cons (look_cons ok_tabR2 ok_span_Cut) ok_span_Div) ok_span_Mul) ok_span_Sub
end Go.AI

namespace Go.Dy
def piD (m : Int) : Dyd := subD (form false (arcV m.toNat 5) (4 - m)) (form false (arcV m.toNat 239) (2 - m))
def slkN (m : Nat) : Nat := 16 * (2 * arcT m 5 + 2) + 4 * (2 * arcT m 239 + 2)
def slkD (m : Int) : Dyd := form false (slkN m.toNat) (-m)
def piLo (n : Int) : Dyd := endD (subD (piD (n + 20)) (slkD (n + 20))) n false
def piHi (n : Int) : Dyd := endD (addD (piD (n + 20)) (slkD (n + 20))) n true
def qLo (n : Int) : Dyd := shD (piLo n) (-1)
def qHi (n : Int) : Dyd := shD (piHi n) (-1)
/-- the quotient by a quarter, below and above -/
def kLo (n : Int) (x : Dyd) : Dyd := quoE x (bif x.neg then qLo n else qHi n) n false
def kHi (n : Int) (x : Dyd) : Dyd := quoE x (bif x.neg then qHi n else qLo n) n true
/-- the whole number that is nearest -/
def nrD (n : Int) (x : Dyd) : Dyd := floorD (addD (kLo n x) (unitOf (-1)))
def nrH (n : Int) (x : Dyd) : Dyd := floorD (addD (kHi n x) (unitOf (-1)))
def qOk (n : Int) (x : Dyd) : Bool := decide (cmpD (nrD n x) (nrH n x) = 0)
def tLo (n : Int) (k : Dyd) : Dyd := endD (bif !k.neg && !(qLo n).neg then mulD k (qLo n) else min4 (mulD k (qLo n)) (mulD k (qHi n)) (mulD k (qLo n)) (mulD k (qHi n))) 8192 false
def tHi (n : Int) (k : Dyd) : Dyd := endD (bif !k.neg && !(qLo n).neg then mulD k (qHi n) else max4 (mulD k (qLo n)) (mulD k (qHi n)) (mulD k (qLo n)) (mulD k (qHi n))) 8192 true
def rLo (n : Int) (x : Dyd) : Dyd := endD (subD x (tHi n (nrD n x))) 8192 false
def rHi (n : Int) (x : Dyd) : Dyd := endD (subD x (tLo n (nrD n x))) 8192 true
/-- an angle that is asked for -/
def angle (x : Dyd) : Prop := mayD x = true ∧ x.mag ≠ [] ∧ x.mag.length ≤ 40 ∧ 0 ≤ topD x ∧ topD x ≤ 1100
end Go.Dy
namespace Go.AI
open Go Go.RowKit Go.Proofs
set_option linter.unusedVariables false
def sPiS : List AV → Option Spec
  | [.num .i64 n] => some ⟨some (1 ≤ n ∧ n ≤ 8192), avS [0] (Dy.piLo n) (Dy.piHi n)⟩
  | _ => none
def sQuarters : List AV → Option Spec
  | [.num .i64 n, .agg [.bool s, .dig [2] m, .num .i64 e]] =>
    some ⟨some (Dy.angle ⟨s, m, e⟩ ∧ 20 ≤ n ∧ n ≤ 8092), .tup [.num .i64 (bif Dy.qOk n ⟨s, m, e⟩ then Dy.at_ (Dy.nrD n ⟨s, m, e⟩) 0 % 4 else 0), avS [0] (bif Dy.qOk n ⟨s, m, e⟩ then Dy.rLo n ⟨s, m, e⟩ else Dy.zeroD) (bif Dy.qOk n ⟨s, m, e⟩ then Dy.rHi n ⟨s, m, e⟩ else Dy.zeroD), .bool (Dy.qOk n ⟨s, m, e⟩)]⟩
  | _ => none
def tabR4 : List (Nat × (List AV → Option Spec)) := (31, sPiS) :: tabR3
def tabR5 : List (Nat × (List AV → Option Spec)) := (17, sQuarters) :: tabR4
end Go.AI

namespace Go.Dy
theorem add_formZ (a b : Int) {u : Int} (hu : u ≤ 0) : addD (formZ a u) (formZ b u) = formZ (a + b) u := by
  rw [addD_at (exp_formZ (Int.le_refl _) hu) (exp_formZ (Int.le_refl _) hu), at_formZ_self, at_formZ_self]
theorem sub_formZ (a b : Int) {u : Int} (hu : u ≤ 0) : subD (formZ a u) (formZ b u) = formZ (a - b) u := by
  unfold subD
  have h : u ≤ (negD (formZ b u)).exp := exp_formZ (z := b) (Int.le_refl _) hu
  rw [addD_at (exp_formZ (Int.le_refl _) hu) h, at_formZ_self, at_negD, at_formZ_self, Int.sub_eq_add_neg]
theorem shD_formZ {z e k : Int} (h : z ≠ 0) : shD (formZ z e) k = formZ z (e + k) := by
  unfold shD formZ
  have hz : z.natAbs ≠ 0 := by omega
  rw [form_pos hz, form_pos hz]
  have : dg (z.natAbs / 2 ^ tz z.natAbs) ≠ [] := fun e0 => by
    have h0 := dg_eq_nil.1 e0
    have h1 := div_tz_odd hz
    omega
  rw [if_neg this]
  simp only
  congr 1
  omega
theorem slkN_le (m : Nat) : slkN m ≤ 10 * m + 60 := by
  have h5 := (arcA_spec (b := m) (n := 5) (by decide)).2.2.2.1
  have h239 := (arcA_spec (b := m) (n := 239) (by decide)).2.2.2.1
  unfold slkN
  omega
theorem lin_pow : ∀ k : Nat, 20 * (k + 21) + 120 ≤ 2 ^ (k + 21)
  | 0 => by decide
  | k + 1 => by
    have := lin_pow k
    rw [show k + 1 + 21 = (k + 21) + 1 by omega, Nat.pow_succ]
    omega
/-- what is reckoned of the circle's constant, over 2^m -/
theorem pi_parts {m : Nat} (h1 : 21 ≤ m) (h2 : m ≤ 8212) : ∃ D : Int, piD (m : Int) = formZ D (-(m : Int)) ∧ slkD (m : Int) = formZ (slkN m : Int) (-(m : Int)) ∧ 0 < slkN m ∧ slkN m ≤ 131072 ∧ 2 * 2 ^ m ≤ D - slkN m ∧ D + slkN m < 8 * 2 ^ m ∧
    ((2 ^ (prec - m) : Nat) : Int) * (D - slkN m) ≤ piN ∧ piN ≤ ((2 ^ (prec - m) : Nat) : Int) * (D + slkN m) := by
  have a5 := arcA_spec (b := m) (n := 5) (by decide)
  have a239 := arcA_spec (b := m) (n := 239) (by decide)
  have hs := slkN_le m
  have hl : 20 * m + 120 ≤ 2 ^ m := by
    have := lin_pow (m - 21)
    rwa [show m - 21 + 21 = m by omega] at this
  have hp : m + (prec - m) = prec := by unfold prec; omega
  have pa := pi_arcs hp a5.2.2.1 a239.2.2.1
  rw [← a5.2.1, ← a239.2.1] at pa
  have hr := pi_range
  simp only [Bool.and_eq_true, decide_eq_true_eq] at hr
  have hn := piN_nat
  have e2 : (2 : Nat) ^ prec = 2 ^ m * 2 ^ (prec - m) := by rw [← Nat.pow_add, hp]
  rw [e2] at hr
  clear e2
  generalize hw : 2 ^ (prec - m) = w at *
  clear hw
  have hsd : slkN m = 16 * (2 * arcT m 5 + 2) + 4 * (2 * arcT m 239 + 2) := rfl
  refine ⟨16 * (arcV m 5 : Int) - 4 * (arcV m 239 : Int), ?_, ?_, by omega, by omega, ?_⟩
  · unfold piD
    rw [Int.toNat_natCast, form_sgn, form_sgn, show (4 : Int) - m = -(m : Int) + (4 : Nat) by omega, show (2 : Int) - m = -(m : Int) + (2 : Nat) by omega, ← formZ_mul, ← formZ_mul, sub_formZ _ _ (by omega)]
    congr 1
    show (arcV m 5 : Int) * 2 ^ 4 - (arcV m 239 : Int) * 2 ^ 2 = _
    omega
  · unfold slkD
    rw [Int.toNat_natCast, form_sgn]
    rfl
  · generalize piN = P at *
    generalize slkN m = s at *
    generalize arcT m 5 = t5 at *
    generalize arcT m 239 = t239 at *
    generalize 16 * (arcV m 5 : Int) - 4 * (arcV m 239 : Int) = D at *
    clear a5 a239
    obtain ⟨p1, p2⟩ := pa
    obtain ⟨r1, r2⟩ := hr
    generalize hM : 2 ^ m = M at *
    have w0 : 0 < w := by
      rcases Nat.eq_zero_or_pos w with c | c
      · subst c; simp at r2
      · exact c
    have hle : w * (16 * (t5 + 2) + 4 * (t239 + 2)) ≤ w * s := Nat.mul_le_mul_left _ (by omega)
    have hle' : ((w * (16 * (t5 + 2) + 4 * (t239 + 2)) : Nat) : Int) ≤ (w : Int) * s := by rw [← Int.natCast_mul]; exact Int.ofNat_le.2 hle
    have q1 : (w : Int) * (D - s) ≤ P := by rw [Int.mul_sub]; omega
    have q2 : P ≤ (w : Int) * (D + s) := by rw [Int.mul_add]; omega
    have r1' : (w : Int) * (3 * M) < P := by
      have : 3 * (M * w) = w * (3 * M) := by rw [Nat.mul_comm M, Nat.mul_left_comm]
      rw [this] at r1
      have : ((w * (3 * M) : Nat) : Int) < P := by omega
      simpa using this
    have r2' : P < (w : Int) * (4 * M) := by
      have : 4 * (M * w) = w * (4 * M) := by rw [Nat.mul_comm M, Nat.mul_left_comm]
      rw [this] at r2
      have : P < ((w * (4 * M) : Nat) : Int) := by omega
      simpa using this
    have wi : (0 : Int) < w := by omega
    have k1 : 3 * (M : Int) < D + s := Int.lt_of_mul_lt_mul_left (Int.lt_of_lt_of_le r1' q2) (by omega)
    have k2 : D - s < 4 * (M : Int) := Int.lt_of_mul_lt_mul_left (Int.lt_of_le_of_lt q1 r2') (by omega)
    have e3 : ((2 : Int) ^ m) = (M : Int) := by rw [← hM]; simp
    rw [e3]
    exact ⟨by omega, by omega, q1, q2⟩
theorem pow_cast (k : Nat) : ((2 ^ k : Nat) : Int) = (2 : Int) ^ k := by simp
theorem two_le {a b : Nat} (h : a ≤ b) : (2 : Int) ^ a ≤ 2 ^ b := by
  have h1 := Nat.pow_le_pow_right (n := 2) (by decide) h
  have e : ∀ k : Nat, ((2 : Int) ^ k) = ((2 ^ k : Nat) : Int) := fun k => by simp
  rw [e, e]
  exact Int.ofNat_le.2 h1
theorem bl_lt_pow {z : Int} {k : Nat} (h0 : 0 ≤ z) (h : z < 2 ^ k) : bl z.natAbs ≤ k := by
  refine bl_le.2 ?_
  have : ((2 : Int) ^ k) = ((2 ^ k : Nat) : Int) := by simp
  omega
theorem pow_lt_bl {z : Int} {k : Nat} (h : 2 ^ k ≤ z) : k < bl z.natAbs := by
  refine lt_bl.2 ?_
  have : ((2 : Int) ^ k) = ((2 ^ k : Nat) : Int) := by simp
  omega
theorem pos_formZ {z e : Int} (h : 0 < z) : (formZ z e).neg = false ∧ (formZ z e).mag ≠ [] := by
  unfold formZ
  rw [form_pos (by omega)]
  refine ⟨decide_eq_false (by omega), fun e0 => ?_⟩
  have h0 := dg_eq_nil.1 e0
  have h1 := div_tz_odd (n := z.natAbs) (by omega)
  omega
theorem at_scaleZ (z : Int) {V m k : Nat} (h : m ≤ V + k) : at_ (formZ z (-(m : Int) + k)) (-(V : Int)) = z * 2 ^ (V + k - m) := by
  rw [at_formZ (by omega)]
  congr 2
  omega
/-- a quarter of the circle, over 2^V -/
def quart (V : Nat) : Int := piN * 2 ^ (V - (prec + 1))
theorem q_span {n : Nat} (h1 : 1 ≤ n) (h2 : n ≤ 8192) : ∃ L H : Int, ∃ tL tH : Nat, qLo (n : Int) = formZ L (-(n : Int) - 21 + tL) ∧ qHi (n : Int) = formZ H (-(n : Int) - 21 + tH) ∧ piLo (n : Int) = formZ L (-(n : Int) - 20 + tL) ∧ piHi (n : Int) = formZ H (-(n : Int) - 20 + tH) ∧
    0 < L ∧ 0 < H ∧ bl L.natAbs ≤ n + 1 ∧ bl H.natAbs ≤ n + 1 ∧ tL ≤ 23 ∧ tH ≤ 23 ∧
    ∀ V : Nat, 14000 ≤ V → L * 2 ^ (V + tL - (n + 21)) ≤ quart V ∧ quart V ≤ H * 2 ^ (V + tH - (n + 21)) ∧ H * 2 ^ (V + tH - (n + 21)) - L * 2 ^ (V + tL - (n + 21)) ≤ 2 ^ (V + 5 - n) ∧ 2 ^ V ≤ L * 2 ^ (V + tL - (n + 21)) + 2 ^ (V + 5 - n) ∧ H * 2 ^ (V + tH - (n + 21)) ≤ 2 ^ (V + 3) := by
  obtain ⟨D, e1, e2, s0, s1, d1, d2, p1, p2⟩ := pi_parts (m := n + 20) (by omega) (by omega)
  rw [Int.natCast_add] at e1 e2
  have e1 : piD ((n : Int) + 20) = _ := e1
  have e2 : slkD ((n : Int) + 20) = _ := e2
  generalize hsl : (slkN (n + 20) : Int) = sl at *
  have s1 : sl ≤ 131072 := by omega
  have s0 : 0 < sl := by omega
  have u0 : -((n : Int) + ((20 : Nat) : Int)) ≤ 0 := by omega
  -- both ends
  have one : ∀ (z : Int) (high : Bool), 2 * 2 ^ (n + 20) ≤ z → z < 8 * 2 ^ (n + 20) → ∃ (L : Int) (t : Nat), endD (formZ z (-((n : Int) + ((20 : Nat) : Int)))) n high = formZ L (-(n : Int) - 20 + t) ∧ 0 < L ∧ bl L.natAbs ≤ n + 1 ∧ t ≤ 23 ∧ L = rndQ z (2 ^ t) high := by
    intro z high z1 z2
    have hb1 : n + 21 < bl z.natAbs := pow_lt_bl (by rw [show n + 21 = (n + 20) + 1 by omega, Int.pow_succ, Int.mul_comm]; exact z1)
    have hb2 : bl z.natAbs ≤ n + 23 := bl_lt_pow (by omega) (by rw [show n + 23 = (n + 20) + 3 by omega, Int.pow_add, Int.mul_comm]; exact z2)
    obtain ⟨t, ht⟩ : ∃ t : Nat, ((bl z.natAbs : Int) - n).toNat = t := ⟨_, rfl⟩
    have hp := Nat.two_pow_pos t
    have hpi : (0 : Int) < 2 ^ t := Int.pow_pos (by decide)
    have h3 := two_bl_le (n := z.natAbs) (by intro e; rw [e, bl_zero] at hb1; omega)
    have h4 : 2 ^ t ≤ 2 ^ (bl z.natAbs - 1) := Nat.pow_le_pow_right (by decide) (by omega)
    have h5 : (2 : Int) ^ t ≤ z := by
      have : ((2 : Int) ^ t) = ((2 ^ t : Nat) : Int) := by simp
      omega
    refine ⟨rndQ z (2 ^ t) high, t, ?_, ?_, ?_, by omega, rfl⟩
    · rw [endD_formZ _ _ _ (by omega), ht]
      congr 1
      omega
    · cases high
      · have := (rndQ_low (z := z) hpi).2
        refine Int.lt_of_mul_lt_mul_right (a := 2 ^ t) ?_ (by omega)
        have h6 : (0 : Int) < rndQ z (2 ^ t) false := by
          refine Decidable.byContradiction fun c => ?_
          have h7 : rndQ z (2 ^ t) false * 2 ^ t ≤ 0 := Int.mul_nonpos_of_nonpos_of_nonneg (by omega) (by omega)
          omega
        have := Int.mul_pos h6 hpi
        omega
      · have := (rndQ_high (z := z) hpi).1
        refine Decidable.byContradiction fun c => ?_
        have h7 : rndQ z (2 ^ t) true * 2 ^ t ≤ 0 := Int.mul_nonpos_of_nonpos_of_nonneg (by omega) (by omega)
        omega
    · have ha := rndQ_abs z hp high
      rw [Int.natCast_pow] at ha
      have hq : bl (z.natAbs / 2 ^ t) ≤ n := by rw [bl_div_two_pow]; omega
      exact Nat.le_trans (bl_mono ha) (bl_half_succ hq)
  obtain ⟨L, tL, eL, L0, bL, tL1, hL⟩ := one (D - sl) false d1 (by omega)
  obtain ⟨H, tH, eH, H0, bH, tH1, hH⟩ := one (D + sl) true (by omega) d2
  have pl : piLo (n : Int) = formZ L (-(n : Int) - 20 + tL) := by
    unfold piLo
    rw [e1, e2, sub_formZ _ _ u0, eL]
  have ph : piHi (n : Int) = formZ H (-(n : Int) - 20 + tH) := by
    unfold piHi
    rw [e1, e2, add_formZ _ _ u0, eH]
  refine ⟨L, H, tL, tH, ?_, ?_, pl, ph, L0, H0, bL, bH, tL1, tH1, fun V hV => ?_⟩
  · unfold qLo
    rw [pl, shD_formZ (by omega)]
    congr 1
    omega
  · unfold qHi
    rw [ph, shD_formZ (by omega)]
    congr 1
    omega
  · have hpL : (0 : Int) < 2 ^ tL := Int.pow_pos (by decide)
    have hpH : (0 : Int) < 2 ^ tH := Int.pow_pos (by decide)
    have rL := rndQ_low (z := D - sl) hpL
    have rH := rndQ_high (z := D + sl) hpH
    rw [← hL] at rL
    rw [← hH] at rH
    have q23 : (2 : Int) ^ 23 = 8388608 := by decide
    have uL : (2 : Int) ^ tL ≤ 8388608 := by rw [← q23]; exact two_le tL1
    have uH : (2 : Int) ^ tH ≤ 8388608 := by rw [← q23]; exact two_le tH1
    obtain ⟨w, hw⟩ : ∃ w : Int, (2 : Int) ^ (V - (n + 21)) = w := ⟨_, rfl⟩
    have w0 : 0 < w := by rw [← hw]; exact Int.pow_pos (by decide)
    have x1 : (2 : Int) ^ (V + tL - (n + 21)) = 2 ^ tL * w := by rw [← hw, ← Int.pow_add]; congr 1; omega
    have x2 : (2 : Int) ^ (V + tH - (n + 21)) = 2 ^ tH * w := by rw [← hw, ← Int.pow_add]; congr 1; omega
    have x3 : (2 : Int) ^ (V + 5 - n) = 67108864 * w := by
      rw [← hw, show (67108864 : Int) = 2 ^ 26 by decide, ← Int.pow_add]; congr 1; omega
    have x4 : (2 : Int) ^ V = 2 * 2 ^ (n + 20) * w := by
      have h21 : (2 : Int) * 2 ^ (n + 20) = 2 ^ (n + 21) := by rw [Int.mul_comm]; exact (Int.pow_succ 2 (n + 20)).symm
      rw [← hw, h21, ← Int.pow_add]; congr 1; omega
    have x5 : (2 : Int) ^ (V + 3) = 16 * 2 ^ (n + 20) * w := by
      have h8 : (2 : Int) ^ (V + 3) = 2 ^ V * 8 := Int.pow_add 2 V 3
      rw [h8, x4, Int.mul_right_comm, Int.mul_right_comm 2 _ 8]
      rfl
    have x6 : quart V * 1 = piN * 2 ^ (V - (prec + 1)) := by unfold quart; omega
    have x7 : ((2 ^ (prec - (n + 20)) : Nat) : Int) * 2 ^ (V - (prec + 1)) = w := by
      have he : prec - (n + 20) + (V - (prec + 1)) = V - (n + 21) := by unfold prec; omega
      rw [← hw, pow_cast, ← Int.pow_add, he]
    rw [Int.mul_one] at x6
    have v0 : (0 : Int) ≤ 2 ^ (V - (prec + 1)) := Int.le_of_lt (Int.pow_pos (by decide))
    have y1 := Int.mul_le_mul_of_nonneg_right p1 v0
    have y2 := Int.mul_le_mul_of_nonneg_right p2 v0
    rw [Int.mul_right_comm, x7, ← x6, Int.mul_comm w] at y1
    rw [Int.mul_right_comm, x7, ← x6, Int.mul_comm w] at y2
    have z1 := Int.mul_le_mul_of_nonneg_right rL.1 (Int.le_of_lt w0)
    have z2 := Int.mul_le_mul_of_nonneg_right (Int.le_of_lt rL.2) (Int.le_of_lt w0)
    have z3 := Int.mul_le_mul_of_nonneg_right rH.1 (Int.le_of_lt w0)
    have z4 := Int.mul_le_mul_of_nonneg_right (Int.le_of_lt rH.2) (Int.le_of_lt w0)
    have z5 := Int.mul_le_mul_of_nonneg_right d1 (Int.le_of_lt w0)
    have z6 := Int.mul_le_mul_of_nonneg_right (Int.le_of_lt d2) (Int.le_of_lt w0)
    have z7 := Int.mul_le_mul_of_nonneg_right uL (Int.le_of_lt w0)
    have z8 := Int.mul_le_mul_of_nonneg_right uH (Int.le_of_lt w0)
    have z9 := Int.mul_le_mul_of_nonneg_right s1 (Int.le_of_lt w0)
    rw [x1, x2, x3, x4, x5, ← Int.mul_assoc, ← Int.mul_assoc]
    rw [Int.add_mul] at z2 z4
    rw [Int.sub_mul] at y1 z1 z2 z5
    rw [Int.add_mul] at y2 z3 z4 z6
    have m0 : (0 : Int) < 2 ^ (n + 20) := Int.pow_pos (by decide)
    have m1 : (1048576 : Int) * 2 * w ≤ 2 ^ (n + 20) * w := by
      refine Int.mul_le_mul_of_nonneg_right ?_ (Int.le_of_lt w0)
      rw [show (1048576 : Int) * 2 = 2 ^ 21 by decide]
      exact two_le (by omega)
    rw [show (2 : Int) * 2 ^ (n + 20) * w = 2 * (2 ^ (n + 20) * w) by rw [Int.mul_assoc]] at z5 ⊢
    rw [show (8 : Int) * 2 ^ (n + 20) * w = 8 * (2 ^ (n + 20) * w) by rw [Int.mul_assoc]] at z6
    rw [show (16 : Int) * 2 ^ (n + 20) * w = 16 * (2 ^ (n + 20) * w) by rw [Int.mul_assoc]]
    generalize (2 : Int) ^ (n + 20) * w = M at *
    generalize D * w = a at *
    generalize sl * w = b at *
    generalize L * 2 ^ tL * w = c at *
    generalize H * 2 ^ tH * w = d at *
    generalize (2 : Int) ^ tL * w = f at *
    generalize (2 : Int) ^ tH * w = g at *
    refine ⟨by omega, by omega, by omega, by omega, by omega⟩
end Go.Dy

namespace Go.Dy
theorem endD_at {d : Dyd} (h : mayD d = true) {n : Nat} (hn : 1 ≤ n) {v : Int} (hv : v ≤ d.exp) (high : Bool) :
    ∃ (r : Int) (w : Nat), at_ (endD d n high) v = r * 2 ^ w ∧ r = rndQ (at_ d v) (2 ^ w) high ∧ ((at_ (endD d n high) v = at_ d v) ∨ ∀ N : Nat, (at_ d v).natAbs < 2 ^ N → n ≤ N ∧ w ≤ N - n) := by
  obtain ⟨t, ht⟩ : ∃ t : Nat, ((bl d.int.natAbs : Int) - n).toNat = t := ⟨_, rfl⟩
  have he : endD d n high = formZ (rndQ d.int (2 ^ t) high) (d.exp + t) := by
    conv => lhs; rw [self_formZ h]
    rw [endD_formZ _ _ _ (by omega), ht]
  have hd : at_ d v = d.int * 2 ^ (d.exp - v).toNat := rfl
  obtain ⟨g, hg⟩ : ∃ g : Nat, (d.exp - v).toNat = g := ⟨_, rfl⟩
  rw [hg] at hd
  have hpt : (0 : Int) < 2 ^ t := Int.pow_pos (by decide)
  have hpg : (0 : Int) < 2 ^ g := Int.pow_pos (by decide)
  have hval : at_ (endD d n high) v = rndQ d.int (2 ^ t) high * 2 ^ (t + g) := by
    rw [he, at_formZ (by omega)]
    congr 2
    omega
  have hr : rndQ (at_ d v) (2 ^ (t + g)) high = rndQ d.int (2 ^ t) high := by
    rw [hd, Int.pow_add]
    unfold rndQ
    cases high
    · simp only [Bool.false_eq_true, if_false]
      exact Int.mul_ediv_mul_of_pos_left _ _ hpg
    · simp only [if_true]
      rw [← Int.neg_mul, Int.mul_ediv_mul_of_pos_left _ _ hpg]
  refine ⟨rndQ d.int (2 ^ t) high, t + g, hval, hr.symm, ?_⟩
  by_cases c : t = 0
  · left
    rw [hval, c, Int.pow_zero, rndQ_one, Nat.zero_add, hd]
  · right
    intro N hN
    rw [hd, Int.natAbs_mul, show ((2 : Int) ^ g).natAbs = 2 ^ g by rw [← pow_cast]; rfl] at hN
    have h0 : d.int.natAbs ≠ 0 := fun e => by rw [e, bl_zero] at ht; omega
    have h1 := two_bl_le h0
    have h2 : 2 ^ (bl d.int.natAbs - 1) * 2 ^ g ≤ d.int.natAbs * 2 ^ g := Nat.mul_le_mul_right _ h1
    rw [← Nat.pow_add] at h2
    have h3 := (Nat.pow_lt_pow_iff_right (a := 2) (by decide)).1 (Nat.lt_of_le_of_lt h2 hN)
    omega
/-- an end, rounded outwards: on its side, and near -/
theorem endD_low {d : Dyd} (h : mayD d = true) {n : Nat} (hn : 1 ≤ n) {v : Int} (hv : v ≤ d.exp) :
    at_ (endD d n false) v ≤ at_ d v ∧ ∀ N : Nat, n ≤ N → (at_ d v).natAbs < 2 ^ N → at_ d v < at_ (endD d n false) v + 2 ^ (N - n) := by
  obtain ⟨r, w, h1, h2, h3⟩ := endD_at h hn hv false
  have hp : (0 : Int) < 2 ^ w := Int.pow_pos (by decide)
  have hl := rndQ_low (z := at_ d v) hp
  rw [← h2, ← h1] at hl
  refine ⟨hl.1, fun N hN hb => ?_⟩
  have hpn : (0 : Int) < 2 ^ (N - n) := Int.pow_pos (by decide)
  rcases h3 with h3 | h3
  · omega
  · have := two_le (h3 N hb).2
    omega
theorem endD_high {d : Dyd} (h : mayD d = true) {n : Nat} (hn : 1 ≤ n) {v : Int} (hv : v ≤ d.exp) :
    at_ d v ≤ at_ (endD d n true) v ∧ ∀ N : Nat, n ≤ N → (at_ d v).natAbs < 2 ^ N → at_ (endD d n true) v < at_ d v + 2 ^ (N - n) := by
  obtain ⟨r, w, h1, h2, h3⟩ := endD_at h hn hv true
  have hp : (0 : Int) < 2 ^ w := Int.pow_pos (by decide)
  have hl := rndQ_high (z := at_ d v) hp
  rw [← h2, ← h1] at hl
  refine ⟨hl.1, fun N hN hb => ?_⟩
  have hpn : (0 : Int) < 2 ^ (N - n) := Int.pow_pos (by decide)
  rcases h3 with h3 | h3
  · omega
  · have := two_le (h3 N hb).2
    omega
/-- what has few bits is its own end -/
theorem endD_self {d : Dyd} (h : mayD d = true) {n : Nat} (hn : 1 ≤ n) (hb : bl (val d.mag) ≤ n) (high : Bool) : endD d n high = d := by
  conv => lhs; rw [self_formZ h]
  rw [endD_formZ _ _ _ (by omega), int_bl, show ((bl (val d.mag) : Int) - n).toNat = 0 by omega, Int.pow_zero, rndQ_one]
  conv => rhs; rw [self_formZ h]
  congr 1
  omega
/-- a quotient next to the exact one: on its side, and near -/
theorem quoE_at {a b : Dyd} (ha : mayD a = true) (hb : mayD b = true) (hs : b.neg = false) (h0 : b.mag ≠ []) {n : Nat} (hn : 1 ≤ n) {V : Nat} (hV : -(V : Int) ≤ a.exp - b.exp - (n + 1 + bl (val b.mag))) (hVa : -(V : Int) ≤ a.exp) (hVb : -(V : Int) ≤ b.exp) (high : Bool) :
    ∃ (r D W : Int) (g : Nat), 0 < D ∧ 0 < W ∧ r = rndQ (at_ a (-(2 * V : Int)) / W) D high ∧ at_ a (-(2 * V : Int)) / W * W = at_ a (-(2 * V : Int)) ∧ at_ (quoE a b n high) (-(V : Int)) * at_ b (-(V : Int)) = r * D * W ∧ D * W = 2 ^ g * at_ b (-(V : Int)) ∧
      (at_ a (-(2 * V : Int)) = 0 ∨ ∀ N : Nat, (at_ a (-(2 * V : Int))).natAbs < 2 ^ N * (at_ b (-(V : Int))).natAbs → n ≤ N ∧ g ≤ N - n) ∧ -(V : Int) ≤ (quoE a b n high).exp := by
  obtain ⟨s, m, e⟩ := a
  obtain ⟨s', m', e'⟩ := b
  simp only at hs h0 hV hVa hVb
  subst hs
  obtain ⟨S, t, k1, k2, -, -, k5⟩ := quoE_formZ ha hb h0 (n := (n : Int)) (by omega)
  have hN := val_ne (mayD_may hb) h0
  have hu : -(V : Int) ≤ e - e' - S + t := by omega
  obtain ⟨g, hg⟩ : ∃ g : Nat, (e - e' - S + t + V).toNat = g := ⟨_, rfl⟩
  obtain ⟨f, hf⟩ : ∃ f : Nat, (e + 2 * V - S).toNat = f := ⟨_, rfl⟩
  obtain ⟨c, hc⟩ : ∃ c : Nat, (e' + V).toNat = c := ⟨_, rfl⟩
  have aA : at_ ⟨s, m, e⟩ (-(2 * V : Int)) = sgn s (val m * 2 ^ S) * 2 ^ f := by
    rw [at_mk, show (e - -(2 * V : Int)).toNat = S + f by omega, Nat.pow_add, ← Nat.mul_assoc, ← sgn_mul, pow_cast]
  have aB : at_ ⟨false, m', e'⟩ (-(V : Int)) = ((val m' * 2 ^ c : Nat) : Int) := by
    rw [at_mk, show (e' - -(V : Int)).toNat = c by omega]
    rfl
  have hNp : 0 < val m' * 2 ^ t := Nat.mul_pos (by omega) (Nat.two_pow_pos t)
  have hfp : (0 : Int) < 2 ^ f := Int.pow_pos (by decide)
  have hdiv : sgn s (val m * 2 ^ S) * 2 ^ f / 2 ^ f = sgn s (val m * 2 ^ S) := Int.mul_ediv_cancel _ (by omega)
  have hDW : ((val m' * 2 ^ t : Nat) : Int) * 2 ^ f = 2 ^ g * ((val m' * 2 ^ c : Nat) : Int) := by
    rw [← pow_cast f, ← pow_cast g, ← Int.natCast_mul, ← Int.natCast_mul]
    congr 1
    rw [Nat.mul_assoc, ← Nat.pow_add, Nat.mul_left_comm, ← Nat.pow_add]
    congr 2
    omega
  refine ⟨rndQ (sgn s (val m * 2 ^ S)) ((val m' * 2 ^ t : Nat) : Int) high, ((val m' * 2 ^ t : Nat) : Int), 2 ^ f, g, by omega, hfp, ?_, ?_, ?_, ?_, ?_, ?_⟩
  · rw [aA, hdiv]
  · rw [aA, hdiv]
  · rw [k5, at_formZ hu, aB, show (e - e' - (S : Int) + (t : Int) - -(V : Int)).toNat = g by omega, Int.mul_assoc, ← hDW, Int.mul_assoc]
  · rw [aB, hDW]
  · by_cases hM : val m = 0
    · left
      rw [aA, hM, Nat.zero_mul, sgn_zero, Int.zero_mul]
    · right
      intro N hb2
      rw [aA, aB, Int.natAbs_mul, natAbs_sgn, show ((2 : Int) ^ f).natAbs = 2 ^ f by rw [← pow_cast]; rfl, Int.natAbs_natCast] at hb2
      have k1 := Nat.mul_le_mul_right (2 ^ f) (k1 hM)
      have hDW' : val m' * 2 ^ t * 2 ^ f = 2 ^ g * (val m' * 2 ^ c) := by
        rw [← pow_cast f, ← pow_cast g, ← Int.natCast_mul, ← Int.natCast_mul] at hDW
        exact Int.ofNat_inj.1 hDW
      rw [Nat.mul_assoc, hDW', ← Nat.mul_assoc, ← Nat.pow_add] at k1
      have k2 := Nat.lt_of_le_of_lt k1 hb2
      have k3 := (Nat.pow_lt_pow_iff_right (a := 2) (by decide)).1 (Nat.lt_of_mul_lt_mul_right k2)
      have : (n : Int).toNat = n := Int.toNat_natCast n
      omega
  · rw [k5]
    exact exp_formZ hu (by omega)
theorem quoE_low {a b : Dyd} (ha : mayD a = true) (hb : mayD b = true) (hs : b.neg = false) (h0 : b.mag ≠ []) {n : Nat} (hn : 1 ≤ n) {V : Nat} (hV : -(V : Int) ≤ a.exp - b.exp - (n + 1 + bl (val b.mag))) (hVa : -(V : Int) ≤ a.exp) (hVb : -(V : Int) ≤ b.exp) (hB : 0 < at_ b (-(V : Int))) :
    at_ (quoE a b n false) (-(V : Int)) * at_ b (-(V : Int)) ≤ at_ a (-(2 * V : Int)) ∧ ∀ N : Nat, n ≤ N → (at_ a (-(2 * V : Int))).natAbs < 2 ^ N * (at_ b (-(V : Int))).natAbs → at_ a (-(2 * V : Int)) ≤ at_ (quoE a b n false) (-(V : Int)) * at_ b (-(V : Int)) + 2 ^ (N - n) * at_ b (-(V : Int)) := by
  obtain ⟨r, D, W, g, hD, hW, e1, e2, e3, e4, e5, -⟩ := quoE_at ha hb hs h0 hn hV hVa hVb false
  generalize at_ a (-(2 * V : Int)) = A at *
  generalize at_ b (-(V : Int)) = B at *
  have hl := rndQ_low (z := A / W) hD
  rw [← e1] at hl
  have l1 := Int.mul_le_mul_of_nonneg_right hl.1 (Int.le_of_lt hW)
  have l2 := Int.mul_le_mul_of_nonneg_right (Int.le_of_lt hl.2) (Int.le_of_lt hW)
  rw [Int.add_mul, e4, e2, ← e3] at l2
  rw [e2, ← e3] at l1
  refine ⟨l1, fun N hN hb => ?_⟩
  rcases e5 with e5 | e5
  · have h1 : (0 : Int) ≤ A / W := by rw [e5]; simp
    have h2 : r = 0 := by rw [e1, e5]; simp [rndQ]
    rw [h2] at e3
    simp only [Int.zero_mul] at e3
    rw [e3, e5]
    have := Int.mul_pos (Int.pow_pos (show (0 : Int) < 2 by decide) : (0 : Int) < 2 ^ (N - n)) hB
    omega
  · have h1 := Int.mul_le_mul_of_nonneg_right (two_le (e5 N hb).2) (Int.le_of_lt hB)
    omega
theorem quoE_high {a b : Dyd} (ha : mayD a = true) (hb : mayD b = true) (hs : b.neg = false) (h0 : b.mag ≠ []) {n : Nat} (hn : 1 ≤ n) {V : Nat} (hV : -(V : Int) ≤ a.exp - b.exp - (n + 1 + bl (val b.mag))) (hVa : -(V : Int) ≤ a.exp) (hVb : -(V : Int) ≤ b.exp) (hB : 0 < at_ b (-(V : Int))) :
    at_ a (-(2 * V : Int)) ≤ at_ (quoE a b n true) (-(V : Int)) * at_ b (-(V : Int)) ∧ ∀ N : Nat, n ≤ N → (at_ a (-(2 * V : Int))).natAbs < 2 ^ N * (at_ b (-(V : Int))).natAbs → at_ (quoE a b n true) (-(V : Int)) * at_ b (-(V : Int)) ≤ at_ a (-(2 * V : Int)) + 2 ^ (N - n) * at_ b (-(V : Int)) := by
  obtain ⟨r, D, W, g, hD, hW, e1, e2, e3, e4, e5, -⟩ := quoE_at ha hb hs h0 hn hV hVa hVb true
  generalize at_ a (-(2 * V : Int)) = A at *
  generalize at_ b (-(V : Int)) = B at *
  have hl := rndQ_high (z := A / W) hD
  rw [← e1] at hl
  have l1 := Int.mul_le_mul_of_nonneg_right hl.1 (Int.le_of_lt hW)
  have l2 := Int.mul_le_mul_of_nonneg_right (Int.le_of_lt hl.2) (Int.le_of_lt hW)
  rw [Int.add_mul, e4, e2, ← e3] at l2
  rw [e2, ← e3] at l1
  refine ⟨l1, fun N hN hb => ?_⟩
  rcases e5 with e5 | e5
  · have h2 : r = 0 := by rw [e1, e5]; simp [rndQ]
    rw [h2] at e3
    simp only [Int.zero_mul] at e3
    rw [e3, e5]
    have := Int.mul_pos (Int.pow_pos (show (0 : Int) < 2 by decide) : (0 : Int) < 2 ^ (N - n)) hB
    omega
  · have h1 := Int.mul_le_mul_of_nonneg_right (two_le (e5 N hb).2) (Int.le_of_lt hB)
    omega
/-- a whole number below -/
theorem floor_val {d : Dyd} (h : mayD d = true) {V : Nat} (hV : -(V : Int) ≤ d.exp) : 0 ≤ (floorD d).exp ∧ at_ (floorD d) 0 * 2 ^ V ≤ at_ d (-(V : Int)) ∧ at_ d (-(V : Int)) < (at_ (floorD d) 0 + 1) * 2 ^ V := by
  obtain ⟨h1, h2, -⟩ := floor_at h V hV
  have h0 : 0 ≤ (floorD d).exp := by
    unfold floorD
    split
    · assumption
    · exact exp_formZ (Int.le_refl _) (Int.le_refl _)
  have hs := at_scale (floorD d) (u := 0) (v := -(V : Int)) (by omega) h0
  rw [show ((0 : Int) - -(V : Int)).toNat = V by omega] at hs
  rw [hs] at h1 h2
  refine ⟨h0, h1, ?_⟩
  rw [Int.add_mul, Int.one_mul]
  exact h2
theorem cmpZ_neg_iff {x y : Int} : cmpZ x y < 0 ↔ x < y := by
  unfold cmpZ
  by_cases h : x < y
  · rw [if_pos h]; exact ⟨fun _ => h, fun _ => by decide⟩
  · rw [if_neg h]
    by_cases h2 : y < x
    · rw [if_pos h2]; exact ⟨fun h3 => absurd h3 (by decide), fun h3 => absurd h3 h⟩
    · rw [if_neg h2]; exact ⟨fun h3 => absurd h3 (by decide), fun h3 => absurd h3 h⟩
theorem min_at {a b : Dyd} {v : Int} (ha : v ≤ a.exp) (hb : v ≤ b.exp) : at_ (minD a b) v ≤ at_ a v ∧ at_ (minD a b) v ≤ at_ b v ∧ (minD a b = a ∨ minD a b = b) := by
  unfold minD
  by_cases h : cmpD b a < 0
  · rw [if_pos h]
    rw [cmpD_at hb ha, cmpZ_neg_iff] at h
    exact ⟨by omega, Int.le_refl _, .inr rfl⟩
  · rw [if_neg h]
    rw [cmpD_at hb ha, cmpZ_neg_iff] at h
    exact ⟨Int.le_refl _, by omega, .inl rfl⟩
theorem max_at {a b : Dyd} {v : Int} (ha : v ≤ a.exp) (hb : v ≤ b.exp) : at_ a v ≤ at_ (maxD a b) v ∧ at_ b v ≤ at_ (maxD a b) v ∧ (maxD a b = a ∨ maxD a b = b) := by
  unfold maxD
  by_cases h : cmpD a b < 0
  · rw [if_pos h]
    rw [cmpD_at ha hb, cmpZ_neg_iff] at h
    exact ⟨by omega, Int.le_refl _, .inr rfl⟩
  · rw [if_neg h]
    rw [cmpD_at ha hb, cmpZ_neg_iff] at h
    exact ⟨Int.le_refl _, by omega, .inl rfl⟩
end Go.Dy

namespace Go.Dy
open Go Go.RowKit
set_option maxRecDepth 100000
structure Wit where
  g : Nat
  kb : Nat
  p : Nat
  q : Nat
  c : Nat
def Wit.ok (w : Wit) : Bool := decide (Nat.gcd w.p w.q = 1) && (decide (2 * 2 ^ w.kb ≤ w.q) && (decide (w.q < 2 ^ (w.kb + w.c)) && decide (2 * 2 ^ w.kb * (piN * 2 ^ w.g * w.q - w.p * (2 ^ (prec + 1) : Nat)).natAbs ≤ 2 ^ (prec + 1))))
def wit0 : Wit := ⟨180, 1101, 1614581714127802204955798377015465636543755297329980483218698268505413725209239713705977879014915971639699911627193124451516365007933050333360027611033638265763571347976334515609365871960837737669668837213193693392662842562420528733763217836321914348770981948931657409840190120354533882674498745423685328514906000424398832101974387259207031025519832903367328875514223398922206448571796111, 670719500257816209505858160564849565800363715157334355090104534716153548231873145930162030563330340438175370284090880139998901894151057875566958677626762521569380316653969639337697037937569364471216412559440400451566231489347012605338915892406381195781731653067558342698423675718833155710027110915189720148490370604920764901450794190, 5⟩
theorem wit0_ok : wit0.ok = true := by kernel_rfl
def wit1 : Wit := ⟨280, 1101, 230429268450471002112816422586152256626523127726974348408726709386318266105814524073944880635802340883984518590362770421451997502738032489332215150179319855046108897407891334089825041360711721489498262166702884023807459866143848042483454935919824557648117615435836493894851680628226301763278642989893437359292377882354001233738596108607737847982660980422735982981232303434884975726634051358620281469217706924955397461, 75512522496665258328876685123855443442799269125032319902446880277675317658155784184210096953212524060389057765895240904042009294403908380054690224640426663225433928184844949771233334470759776852183311134305533605414147836508523602398534314464205125895764309354585398378080786575585165441294898247014870334749517404425264942069238824, 2⟩
theorem wit1_ok : wit1.ok = true := by kernel_rfl
def wit2 : Wit := ⟨380, 1001, 210434821716427987095705718675489813771465915826817124422876635946537583678572712987415236417458872465185603443495065354692522832340567420438095446884980889335485353237736191150657640988774369765697308764527429786196504170293280608662359787102654815053274816105434104490420941085976265543977062650711031491542048118869022579114785682155421645419008452500034384951557540461783731850391271187095122993494288875553539299, 54400059786431375099474025176558003413481558014096542237378091912860719626474774439003821347487036427450578728584313769810055919949747868560058232577568586618791349359823447967170791910902906759728438181596786965523114111084795988586591975751833885825549616638308083409333818761957040319132452021171340, 2⟩
theorem wit2_ok : wit2.ok = true := by kernel_rfl
def wit3 : Wit := ⟨480, 901, 177478076428695984264235899510684223294767214582373480150639447987916396671374817092673878787839973612035876890200623590627243594642052554450000594345065318037205297997850866878214071590542828452785983298815987389347712435455814131676828019729411858806757801663638636759595556026250972502006952600141295198691034630887587986263150475307366753140831152731136382448469538966983303400399762085633747199995816104627385098, 36193194549521252489475647357340586020906381959938124933884966820177347287434711356252506006924712071510068964643051665559090051720672753144149199837877517561847477199749250670675045906288721772062413856218908436695958387442130534159398269624285261644323097473524082555931, 2⟩
theorem wit3_ok : wit3.ok = true := by kernel_rfl
def wit4 : Wit := ⟨580, 801, 236381947449145472867121311406472456561516813559194352762380652326217922479255066423478554469109091567149607496247396675174257649575787748176127249184670946980145854075399666322947100730878822980180145789705357724206904956644711762014132603230829523083769647242906351580167926328590092536629553868585130955497671189276762171505615583766386468859058092160702587664625865078035509118406652614937356551252232745502184737, 38027427249285408875236972253864783714715268588741495157486375965144135307285336635641892297696290989700201970457975375313631493342135238395697785505909035557686386085479719260196272876800026708948197751022062293242303658706505938107931458075, 2⟩
theorem wit4_ok : wit4.ok = true := by kernel_rfl
def wit5 : Wit := ⟨680, 701, 210884699550253394702502821784912027614481107982034642004965016333922544045699160328560027442657637372798110313162687675014057466211928038740862188247606734949082472939337013655580233927913546877161256809081089400562077846404521882923314721377826058689894423323531970340773873259787206882063362956442522705583360662986343415559229836868983919150326367572725803299466562887715224106200448340905101461544433490254346140, 26762590117712542784993317075130929270077550569753658338338502782525624657225456563421440524900765410054734006533263389156637223196653434200404083665887240688548032096971884228880249975340857144198489193434159181, 2⟩
theorem wit5_ok : wit5.ok = true := by kernel_rfl
def wit6 : Wit := ⟨780, 601, 661021015519227991849498114916939712817607362486964075331466481524104913176787833021040029602285301267105429178795224772347371037850688266035235660574422321489273468854190557963179576605290263441717053666591719493371723660651286869899484178230984456604476871543111194336725819790728537614948687579981543852500737095505939213421697360731999561061244007833039653133834891501574618674937872618699500617112411407536044086, 66175734766068802604439139434236415947498029707025725540612724197811084720144074041228939607968537516817813760431225202431627996314643370161798929543599924165033067044318675821882353, 3⟩
theorem wit6_ok : wit6.ok = true := by kernel_rfl
def wit7 : Wit := ⟨880, 501, 667765203305958548803152718546404106895616174971993099132057265886978506721375034158093574108710434091539347729475977894522983516901243323238808128809022350624637916503129957205848091244379441196808816055401819935048124021070674529961798024312647337479789679159476104358466500328233222097767034793695467571550398789998118432528239341987181267243058854179851117988564575748252572029320924268981329896101352965024906551, 52736065276218864443385925215769976719021691160618117526710473855093149093256573887453768894209874353855259379115072149223226428686092007417568034192589, 4⟩
theorem wit7_ok : wit7.ok = true := by kernel_rfl
def wit8 : Wit := ⟨980, 401, 194389139879458747629797951917251218973143704491734821670440615415042782930590009127625076736793892946968901742723097805820234151394716719881521256493832320554061815568182750226992161376428765739268520987043817834191869745503310043339047253863957916933541070867737446053698895891680220292904269566326875470124627079282251380889268782557714411379848427383517153206778947463360123073486809210561598363791538643044442583, 12110340953334054774222381593432002572576599147811381562312118094648866734216578063317486151115740055613386431741460893449, 2⟩
theorem wit8_ok : wit8.ok = true := by kernel_rfl
def wit9 : Wit := ⟨1080, 301, 553385569804946624650265095927026187195807577056573863915269935501342495113032447379748346159907182296294284841063871188055744012332902969318641027470380411970528912742620735286171648553689345860825113530339792743862303327825710155988629425959722189469704132604408606697549237861140289967674536722002852461414781547354903607554247984640125317816141724292002664196588794911645258759372405290877208105926863787481375774, 27196476148062596997751752702714281085497272164537567139482641558819890207098946004469026375, 3⟩
theorem wit9_ok : wit9.ok = true := by kernel_rfl
def wit10 : Wit := ⟨1180, 201, 452493076595033903102295787845930970522953402294471794571084138153990588933373405071067897127884669420100752696066424535666217422816701218642627355031019814411665310269079591417097101712374622939346230077005114566704416316622951884719462570642836799209402351390253744358778190743952839180217831687431136042639323627456649276214793373828873005435511932064997587112294252085941013332013708541456042749017094836669828669, 17542729955673962696437183582837652880653071629593530664180315, 3⟩
theorem wit10_ok : wit10.ok = true := by kernel_rfl
def wit11 : Wit := ⟨1280, 101, 576257444912499124945867593590774054758845763526956165882191163806925877533847168647526640590202234184313385355367333161085580165366171664127849023434136522082975569312801738630733886383928717598632485932340636036297053870392132314487450459326492084860019263598092937012327905535795601776838326147889752371326439328715561929929844645690838835449479623004585604876958221069193617066506586728105027298624779443069224147, 17623908214610944531870472362654, 3⟩
theorem wit11_ok : wit11.ok = true := by kernel_rfl
def wit12 : Wit := ⟨2905, 1101, 2795655907276417390657704018125338461429118935607186038771504764988849664168225992410543550664989011191010685690749703073574058462786023467772086679493540957547908744269072166229711547175713508305536397289024108724924230348494050474635254419095248347719609080722474911377638207532139607120260604770807591292943169400952981213346617936257057917919390250502890856844974496794541095207679062227877814577935394650734258292750604661511993659818985779787091099805820785031141157940827229001136665156514517655879767399097046998859734024528416835420317833090671220748961573620845313813082462593809539675414602962834087263772387761294337151794098803274716394629031543800199332615589572011552813067279298014482804707320451311129296629106037074275601451704879418739987685146680802199754489502044446838913518844137492683426325876711436932675026852133253367858446731217561199277118014518522436957575836018664264542929567263980265646594476792771746443931248592879300547828867775327894779141567119870801377749272312886732742640103098409988702574918884397382176854217715696794282119808978721278018375687010377858450859717487937990837275808990142525625148736615174761398403368824698857271952396250376021108812674596580763608, 57309475789032064154008496598013888492770887228881546098034660691161179262602899896194110805784219988619375536445917667978399093737440966066497546991808198011911706099485399258166764933244777974221092150448255560401108189058589564635748998614068574826293383108252543372758761484107882243143421495190322819664112150249607437949595197, 2⟩
theorem wit12_ok : wit12.ok = true := by kernel_rfl
/-- over any power of two that is fine enough: no multiple of 2^-g lies near to k quarters -/
theorem wit_far {w : Wit} (h : w.ok = true) {V : Nat} (hV : prec + 1 + w.g ≤ V) {k : Int} (hk0 : k ≠ 0) (hk : k.natAbs ≤ 2 ^ w.kb) (hw : w.g + w.kb + w.c + 1 ≤ V) (A : Int) : 2 ^ (V - (w.g + w.kb + w.c + 1)) ≤ (A * 2 ^ (V - w.g) - k * (piN * 2 ^ (V - (prec + 1)))).natAbs := by
  unfold Wit.ok at h
  simp only [Bool.and_eq_true, decide_eq_true_eq] at h
  obtain ⟨h1, h2, h3, h4⟩ := h
  have key : ∀ A' : Int, 2 ^ (prec + 1) ≤ 2 * 2 ^ (w.kb + w.c) * (A' * (2 ^ (prec + 1) : Nat) - k.natAbs * (piN.toNat * 2 ^ w.g)).natAbs := fun A' => far_tool piN_nat h1 h2 h3 (Nat.two_pow_pos _) h4 (by omega) hk A'
  -- with the sign of k
  have key2 : 2 ^ (prec + 1) ≤ 2 * 2 ^ (w.kb + w.c) * (A * (2 ^ (prec + 1) : Nat) - k * (piN * 2 ^ w.g)).natAbs := by
    rw [piN_nat] at key
    rcases Int.natAbs_eq k with e | e
    · have := key A
      rw [← e] at this
      exact this
    · have := key (-A)
      rw [e]
      have e2 : -A * ((2 ^ (prec + 1) : Nat) : Int) - (k.natAbs : Int) * (piN * 2 ^ w.g) = -(A * ((2 ^ (prec + 1) : Nat) : Int) - -(k.natAbs : Int) * (piN * 2 ^ w.g)) := by
        rw [Int.neg_mul, Int.neg_mul]
        omega
      rw [e2, Int.natAbs_neg] at this
      exact this
  clear key h1 h2 h3 h4
  generalize prec + 1 = q at *
  obtain ⟨j, hj⟩ : ∃ j, V = q + w.g + j := ⟨V - (q + w.g), by omega⟩
  have hz : A * 2 ^ (V - w.g) - k * (piN * 2 ^ (V - q)) = (A * (2 ^ q : Nat) - k * (piN * 2 ^ w.g)) * ((2 ^ j : Nat) : Int) := by
    rw [show V - w.g = q + j by omega, show V - q = w.g + j by omega, Int.pow_add, Int.pow_add, Int.sub_mul, Int.mul_assoc, Int.mul_assoc, Int.mul_assoc, Int.natCast_pow, Int.natCast_pow]
    rfl
  rw [hz, Int.natAbs_mul, Int.natAbs_natCast]
  generalize (A * ((2 ^ q : Nat) : Int) - k * (piN * 2 ^ w.g)).natAbs = z at *
  have e5 : 2 * 2 ^ (w.kb + w.c) = 2 ^ (w.kb + w.c + 1) := by rw [Nat.pow_succ (n := 2) (m := w.kb + w.c), Nat.mul_comm]
  rw [e5] at key2
  refine Nat.le_of_mul_le_mul_left (c := 2 ^ (w.kb + w.c + 1)) ?_ (Nat.two_pow_pos _)
  rw [← Nat.pow_add, show w.kb + w.c + 1 + (V - (w.g + w.kb + w.c + 1)) = q + j by omega, Nat.pow_add 2 q j, ← Nat.mul_assoc]
  exact Nat.mul_le_mul_right _ key2
end Go.Dy
