/- Plain numbers: so many digits of a number; what a list holds when one digit is set; bits of a highest and a lowest digit. -/
import Derived.Test.YtnhbdcnnanfacaaDoorAInum
import Derived.Lib.BitFns
import Derived.Lib.TrailingZeros
namespace Go.Dy

/-- the n lowest digits of a number -/
def dgN : Nat → Nat → List Nat
  | 0, _ => []
  | n + 1, v => v % 4294967296 :: dgN n (v / 4294967296)

theorem dgN_length : ∀ n v, (dgN n v).length = n
  | 0, _ => rfl
  | n + 1, v => by simp [dgN, dgN_length n]
theorem digs_dgN : ∀ n v, digs (dgN n v)
  | 0, _ => digs_nil
  | n + 1, v => by unfold dgN; exact digs_cons.2 ⟨by omega, digs_dgN n _⟩
theorem val_dgN : ∀ n v, val (dgN n v) = v % 2 ^ (32 * n)
  | 0, v => by simp [dgN, val]; omega
  | n + 1, v => by
    unfold dgN
    simp only [val]
    rw [val_dgN n, show 32 * (n + 1) = 32 + 32 * n by omega, Nat.pow_add, Nat.mod_mul]
theorem dgN_val : ∀ {l : List Nat}, digs l → dgN l.length (val l) = l
  | [], _ => rfl
  | d :: l, h => by
    have ⟨h1, h2⟩ := digs_cons.1 h
    simp only [List.length_cons, dgN, val]
    rw [show (d + 4294967296 * val l) % 4294967296 = d by omega, show (d + 4294967296 * val l) / 4294967296 = val l by omega, dgN_val h2]
theorem dgN_val' {l : List Nat} (h : digs l) {n : Nat} (hn : l.length = n) : dgN n (val l) = l := by subst hn; exact dgN_val h

/-- lists of as many digits that are worth the same -/
theorem ext_val {l m : List Nat} (hl : digs l) (hm : digs m) (hlen : l.length = m.length) (hv : val l = val m) : l = m := by
  rw [← dgN_val hl, ← dgN_val hm, hlen, hv]

theorem dgN_succ (n v : Nat) : dgN (n + 1) v = dgN n v ++ [v / 2 ^ (32 * n) % 4294967296] := by
  refine ext_val (digs_dgN _ _) (digs_append.2 ⟨digs_dgN _ _, digs_cons.2 ⟨by omega, digs_nil⟩⟩) (by simp [dgN_length]) ?_
  rw [val_dgN, val_snoc, val_dgN, dgN_length, show 32 * (n + 1) = 32 * n + 32 by omega, Nat.pow_add, Nat.mod_mul]

theorem dgN_add (n v w : Nat) : dgN n (v + 2 ^ (32 * n) * w) = dgN n v := by
  refine ext_val (digs_dgN _ _) (digs_dgN _ _) (by simp [dgN_length]) ?_
  rw [val_dgN, val_dgN, Nat.add_mul_mod_self_left]

theorem dgN_mod (n v : Nat) : dgN n (v % 2 ^ (32 * n)) = dgN n v := by
  refine ext_val (digs_dgN _ _) (digs_dgN _ _) (by simp [dgN_length]) ?_
  rw [val_dgN, val_dgN, Nat.mod_mod]

/-- all digits of a number, if it has no more -/
theorem dg_val_dgN {n v : Nat} (h : v < 2 ^ (32 * n)) : dg (val (dgN n v)) = dg v := by rw [val_dgN, Nat.mod_eq_of_lt h]

theorem getD_append_left {a b : List Nat} {i : Nat} (h : i < a.length) : (a ++ b).getD i 0 = a.getD i 0 := by
  simp [List.getD_eq_getElem?_getD, List.getElem?_append_left h]
theorem getD_append_right {a b : List Nat} {i : Nat} (h : a.length ≤ i) : (a ++ b).getD i 0 = b.getD (i - a.length) 0 := by
  simp [List.getD_eq_getElem?_getD, List.getElem?_append_right h]

/-- one digit set, all below it kept -/
theorem take_set_succ {l : List Nat} {i d : Nat} (hi : i < l.length) : (l.set i d).take (i + 1) = l.take i ++ [d] := by
  rw [List.take_set, List.take_succ_eq_append_getElem hi, List.set_append]
  simp [Nat.min_eq_left (Nat.le_of_lt hi)]
theorem val_take_set_succ {l : List Nat} {i d : Nat} (hi : i < l.length) : val ((l.set i d).take (i + 1)) = val (l.take i) + 2 ^ (32 * i) * d := by
  rw [take_set_succ hi, val_snoc, List.length_take, Nat.min_eq_left (by omega)]
theorem drop_set_succ {l : List Nat} {i d : Nat} : (l.set i d).drop (i + 1) = l.drop (i + 1) := by
  rw [List.drop_set, if_pos (by omega)]

theorem pow_split (i : Nat) : 2 ^ (32 * (i + 1)) = 2 ^ (32 * i) * 4294967296 := by
  rw [show 32 * (i + 1) = 32 * i + 32 by omega, Nat.pow_add]

/-- the value from a place on -/
theorem val_drop_step (l : List Nat) (i : Nat) : val (l.drop i) = l.getD i 0 + 4294967296 * val (l.drop (i + 1)) := by
  by_cases h : i < l.length
  · exact val_drop_at h
  · rw [List.drop_of_length_le (by omega), List.drop_of_length_le (by omega), List.getD_eq_getElem?_getD, List.getElem?_eq_none (by omega)]
    rfl

theorem bitLen_eq {x : Nat} (h : x < 2 ^ 64) : Lib.bitLen x = bl x := by
  by_cases h0 : x = 0
  · subst h0; rfl
  · have hk := bl_pos.2 h0
    have h1 := two_bl_le h0
    have h2 := lt_two_bl x
    have h3 := bl_le.2 h
    have e := Lib.bitLen_shift (bl x - 1) x h1 h
    have hone : x / 2 ^ (bl x - 1) = 1 := by
      have hp := Nat.two_pow_pos (bl x - 1)
      apply Nat.le_antisymm
      · have : x / 2 ^ (bl x - 1) < 2 := by
          rw [Nat.div_lt_iff_lt_mul hp, ← Nat.pow_succ', show (bl x - 1).succ = bl x by omega]
          exact h2
        omega
      · exact (Nat.le_div_iff_mul_le hp).2 (by omega)
    rw [hone, show Lib.bitLen 1 = 1 by decide +kernel] at e
    omega

theorem ctz_eq {x : Nat} (h0 : x ≠ 0) (h : x < 2 ^ 32) : Lib.ctz 32 x = tz x := by
  unfold Lib.ctz
  rw [if_neg h0]
  obtain ⟨m, hm, _⟩ := Lib.ctzFrom_spec 32 x (by omega) h
  conv => rhs; rw [hm]
  rw [tz_mul]

theorem bl_digits {l : List Nat} (h : digs l) (hne : l ≠ []) (ht : l.getD (l.length - 1) 0 ≠ 0) : bl (val l) = 32 * (l.length - 1) + bl (l.getD (l.length - 1) 0) := by
  have hl := List.length_pos_iff.2 hne
  have e := val_take_drop l (l.length - 1) (by omega)
  have e2 := val_drop_step l (l.length - 1)
  rw [show l.length - 1 + 1 = l.length by omega, List.drop_length] at e2
  have hv := val_lt (digs_take h (l.length - 1))
  rw [List.length_take, Nat.min_eq_left (by omega)] at hv
  have hx := digs_getD h (l.length - 1)
  generalize l.getD (l.length - 1) 0 = x at ht e2 hx ⊢
  have hb := bl_pos.2 ht
  have h1 := two_bl_le ht
  have h2 := lt_two_bl x
  have hp := Nat.two_pow_pos (32 * (l.length - 1))
  rw [e, e2]
  simp only [val, Nat.mul_zero, Nat.add_zero]
  rw [show 32 * (l.length - 1) + bl x = (32 * (l.length - 1) + (bl x - 1)) + 1 by omega]
  refine bl_eq ?_ ?_
  · rw [Nat.pow_add]
    exact Nat.le_trans (Nat.mul_le_mul_left _ h1) (Nat.le_add_left _ _)
  · rw [show 32 * (l.length - 1) + (bl x - 1) + 1 = 32 * (l.length - 1) + bl x by omega, Nat.pow_add]
    have h3 : 2 ^ (32 * (l.length - 1)) * (x + 1) ≤ 2 ^ (32 * (l.length - 1)) * 2 ^ bl x := Nat.mul_le_mul_left _ h2
    rw [Nat.mul_add, Nat.mul_one] at h3
    omega

/-- noughts below: so many digits of nought, and those of the first that is none -/
theorem tz_digits {l : List Nat} {i : Nat} (h0 : val (l.take i) = 0) (hi : i ≤ l.length) (hx : l.getD i 0 ≠ 0) (hlt : l.getD i 0 < 4294967296) : tz (val l) = 32 * i + tz (l.getD i 0) := by
  have e := val_take_drop l i hi
  rw [h0, Nat.zero_add, val_drop_step] at e
  generalize l.getD i 0 = x at hx hlt e ⊢
  obtain ⟨m, hm⟩ := tz_spec hx
  have ht : tz x < 32 := by
    have := tz_lt_bl hx
    have := (bl_le (n := x) (k := 32)).2 hlt
    omega
  generalize val (l.drop (i + 1)) = r at e
  have e2 : x + 4294967296 * r = 2 ^ tz x * (2 * (m + 2 ^ (31 - tz x) * r) + 1) := by
    have e3 : 4294967296 * r = 2 ^ tz x * (2 * (2 ^ (31 - tz x) * r)) := by
      rw [← Nat.mul_assoc 2, ← Nat.pow_succ', ← Nat.mul_assoc, ← Nat.pow_add, show tz x + (31 - tz x + 1) = 32 by omega]
    rw [e3]
    conv => lhs; arg 1; rw [hm]
    rw [← Nat.mul_add]
    congr 1
    omega
  rw [e, e2, ← Nat.mul_assoc, ← Nat.pow_add, tz_mul]

end Go.Dy
