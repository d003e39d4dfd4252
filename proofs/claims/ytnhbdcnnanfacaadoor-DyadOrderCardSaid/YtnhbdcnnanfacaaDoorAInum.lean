/- Plain numbers: lists of digits to the base 2^32, lengths in bits, trailing noughts. -/
namespace Go.Dy

/-- what a list of digits is worth, the lowest digit first -/
def val : List Nat → Nat
  | [] => 0
  | d :: l => d + 4294967296 * val l

/-- the digits of a number; so written that the kernel can reckon them -/
def dgF : Nat → Nat → List Nat
  | 0, _ => []
  | f + 1, n => if n = 0 then [] else n % 4294967296 :: dgF f (n / 4294967296)
def dg (n : Nat) : List Nat := dgF n n
theorem dgF_eq : ∀ (f g n : Nat), n ≤ f → n ≤ g → dgF f n = dgF g n
  | 0, g, n, h, _ => by
    have : n = 0 := by omega
    subst this
    cases g <;> simp [dgF]
  | f + 1, 0, n, _, h => by
    have : n = 0 := by omega
    subst this
    simp [dgF]
  | f + 1, g + 1, n, h, h' => by
    simp only [dgF]
    by_cases h0 : n = 0
    · rw [if_pos h0, if_pos h0]
    · have : n / 4294967296 < n := Nat.div_lt_self (by omega) (by omega)
      rw [if_neg h0, if_neg h0, dgF_eq f g (n / 4294967296) (by omega) (by omega)]

def digs (l : List Nat) : Prop := ∀ x ∈ l, x < 4294967296

theorem digs_nil : digs [] := fun x hx => by cases hx
theorem digs_cons {d : Nat} {l : List Nat} : digs (d :: l) ↔ d < 4294967296 ∧ digs l := by simp [digs]
theorem digs_append {a b : List Nat} : digs (a ++ b) ↔ digs a ∧ digs b := by
  simp only [digs, List.mem_append]
  exact ⟨fun h => ⟨fun x hx => h x (.inl hx), fun x hx => h x (.inr hx)⟩, fun h x hx => hx.elim (h.1 x) (h.2 x)⟩

theorem dg_zero : dg 0 = [] := rfl
theorem dg_pos {n : Nat} (h : n ≠ 0) : dg n = n % 4294967296 :: dg (n / 4294967296) := by
  obtain ⟨f, rfl⟩ : ∃ f, n = f + 1 := ⟨n - 1, by omega⟩
  have : (f + 1) / 4294967296 < f + 1 := Nat.div_lt_self (by omega) (by omega)
  show dgF (f + 1) (f + 1) = _ :: dgF _ _
  rw [dgF, if_neg h, dgF_eq f ((f + 1) / 4294967296) ((f + 1) / 4294967296) (by omega) (by omega)]

theorem val_dg (n : Nat) : val (dg n) = n := by
  induction n using Nat.strongRecOn with
  | _ n ih =>
    by_cases h : n = 0
    · subst h; rw [dg_zero]; rfl
    · rw [dg_pos h]
      simp only [val]
      rw [ih _ (Nat.div_lt_self (by omega) (by omega))]
      omega

theorem digs_dg (n : Nat) : digs (dg n) := by
  induction n using Nat.strongRecOn with
  | _ n ih =>
    by_cases h : n = 0
    · subst h; rw [dg_zero]; exact digs_nil
    · rw [dg_pos h, digs_cons]
      exact ⟨by omega, ih _ (Nat.div_lt_self (by omega) (by omega))⟩

theorem dg_inj {a b : Nat} (h : dg a = dg b) : a = b := by rw [← val_dg a, h, val_dg]
theorem dg_eq_nil {n : Nat} : dg n = [] ↔ n = 0 := ⟨fun h => by rw [← val_dg n, h]; rfl, fun h => by rw [h, dg_zero]⟩

theorem val_append (a b : List Nat) : val (a ++ b) = val a + 2 ^ (32 * a.length) * val b := by
  induction a with
  | nil => simp [val]
  | cons d a ih =>
    simp only [List.cons_append, val, ih, List.length_cons]
    rw [show 32 * (a.length + 1) = 32 * a.length + 32 by omega, Nat.pow_add, Nat.mul_add, Nat.mul_comm (2 ^ (32 * a.length)) (2 ^ 32), Nat.mul_assoc, Nat.add_assoc]

theorem val_replicate (n : Nat) : val (List.replicate n 0) = 0 := by
  induction n with
  | zero => rfl
  | succ n ih => simp [List.replicate_succ, val, ih]

theorem val_snoc (a : List Nat) (d : Nat) : val (a ++ [d]) = val a + 2 ^ (32 * a.length) * d := by rw [val_append]; simp [val]

theorem val_lt {l : List Nat} (h : digs l) : val l < 2 ^ (32 * l.length) := by
  induction l with
  | nil => simp [val]
  | cons d l ih =>
    have ⟨h1, h2⟩ := digs_cons.1 h
    have := ih h2
    simp only [val, List.length_cons]
    rw [show 32 * (l.length + 1) = 32 + 32 * l.length by omega, Nat.pow_add]
    omega

/-- digits with no nought at the high end -/
def top0 : List Nat → Bool
  | [] => true
  | l => l.getD (l.length - 1) 0 != 0

theorem dg_val_cons {d : Nat} {l : List Nat} (hd : d < 4294967296) (h : dg (val l) = l) (h0 : d ≠ 0 ∨ l ≠ []) : dg (val (d :: l)) = d :: l := by
  have hne : val (d :: l) ≠ 0 := by
    simp only [val]
    rcases h0 with h0 | h0
    · omega
    · have : val l ≠ 0 := fun e => h0 (by rw [← h, e, dg_zero])
      omega
  rw [dg_pos hne]
  simp only [val]
  rw [show (d + 4294967296 * val l) % 4294967296 = d by omega, show (d + 4294967296 * val l) / 4294967296 = val l by omega, h]

theorem dg_val {l : List Nat} (h : digs l) (ht : l = [] ∨ l.getD (l.length - 1) 0 ≠ 0) : dg (val l) = l := by
  induction l with
  | nil => exact dg_zero
  | cons d l ih =>
    have ⟨h1, h2⟩ := digs_cons.1 h
    rcases ht with ht | ht
    · cases ht
    · cases l with
      | nil =>
        have : d ≠ 0 := by simpa using ht
        exact dg_val_cons h1 (ih h2 (.inl rfl)) (.inl this)
      | cons e l =>
        refine dg_val_cons h1 (ih h2 (.inr ?_)) (.inr (by simp))
        simpa using ht

theorem last_dg (n : Nat) : dg n = [] ∨ (dg n).getD ((dg n).length - 1) 0 ≠ 0 := by
  induction n using Nat.strongRecOn with
  | _ n ih =>
    by_cases h : n = 0
    · subst h; exact .inl dg_zero
    · refine .inr ?_
      rw [dg_pos h]
      rcases ih _ (Nat.div_lt_self (by omega) (by omega) : n / 4294967296 < n) with h1 | h1
      · rw [h1]
        have : n / 4294967296 = 0 := dg_eq_nil.1 h1
        simp; omega
      · cases hl : dg (n / 4294967296) with
        | nil => rw [hl] at h1; simp at h1
        | cons e l => rw [hl] at h1; simpa using h1

theorem dg_val_iff {l : List Nat} (h : digs l) : dg (val l) = l ↔ (l = [] ∨ l.getD (l.length - 1) 0 ≠ 0) := ⟨fun e => by have := last_dg (val l); rwa [e] at this, dg_val h⟩

/-- cutting a nought off the high end -/
theorem val_drop_last {l : List Nat} (h : l ≠ []) (h0 : l.getD (l.length - 1) 0 = 0) : val (l.take (l.length - 1)) = val l := by
  have e : l = l.take (l.length - 1) ++ [l.getD (l.length - 1) 0] := by
    have hl : l.length - 1 < l.length := by
      have := List.length_pos_iff.2 h
      omega
    rw [List.getD_eq_getElem?_getD, List.getElem?_eq_getElem hl, Option.getD_some, List.take_append_getElem hl]
    rw [List.take_of_length_le (by omega)]
  conv => rhs; rw [e]
  rw [val_snoc, h0]
  simp

theorem digs_take {l : List Nat} (h : digs l) (n : Nat) : digs (l.take n) := fun x hx => h x (List.mem_of_mem_take hx)
theorem digs_drop {l : List Nat} (h : digs l) (n : Nat) : digs (l.drop n) := fun x hx => h x (List.mem_of_mem_drop hx)
theorem digs_replicate (n : Nat) : digs (List.replicate n 0) := fun x hx => by rw [List.eq_of_mem_replicate hx]; decide
theorem digs_set {l : List Nat} (h : digs l) {i d : Nat} (hd : d < 4294967296) : digs (l.set i d) := fun x hx => by
  rcases List.mem_or_eq_of_mem_set hx with h1 | h1
  · exact h x h1
  · rw [h1]; exact hd
theorem digs_getD {l : List Nat} (h : digs l) (i : Nat) : l.getD i 0 < 4294967296 := by
  rw [List.getD_eq_getElem?_getD]
  cases hi : l[i]? with
  | none => decide
  | some x => exact h x (List.mem_of_getElem? hi)

theorem val_take_drop (l : List Nat) (i : Nat) (hi : i ≤ l.length) : val l = val (l.take i) + 2 ^ (32 * i) * val (l.drop i) := by
  conv => lhs; rw [← List.take_append_drop i l]
  rw [val_append, List.length_take, Nat.min_eq_left hi]

theorem val_drop {l : List Nat} (h : digs l) (i : Nat) : val (l.drop i) = val l / 2 ^ (32 * i) := by
  by_cases hi : i ≤ l.length
  · have e := val_take_drop l i hi
    have hl := val_lt (digs_take h i)
    rw [List.length_take, Nat.min_eq_left hi] at hl
    rw [e, Nat.add_mul_div_left _ _ (Nat.two_pow_pos _), Nat.div_eq_of_lt hl, Nat.zero_add]
  · rw [List.drop_of_length_le (by omega), Nat.div_eq_of_lt]
    · rfl
    · exact Nat.lt_of_lt_of_le (val_lt h) (Nat.pow_le_pow_right (by decide) (by omega))

theorem val_take {l : List Nat} (h : digs l) (i : Nat) : val (l.take i) = val l % 2 ^ (32 * i) := by
  by_cases hi : i ≤ l.length
  · have e := val_take_drop l i hi
    have hl := val_lt (digs_take h i)
    rw [List.length_take, Nat.min_eq_left hi] at hl
    rw [e, Nat.add_mul_mod_self_left, Nat.mod_eq_of_lt hl]
  · rw [List.take_of_length_le (by omega), Nat.mod_eq_of_lt]
    exact Nat.lt_of_lt_of_le (val_lt h) (Nat.pow_le_pow_right (by decide) (by omega))

theorem getD_drop_zero (l : List Nat) (i : Nat) : l.getD i 0 = (l.drop i).getD 0 0 := by
  simp [List.getD_eq_getElem?_getD, List.getElem?_drop]

theorem val_mod {l : List Nat} (h : digs l) : val l % 4294967296 = l.getD 0 0 := by
  cases l with
  | nil => rfl
  | cons d l =>
    have := (digs_cons.1 h).1
    simp [val]; omega

/-- a digit of a number -/
theorem getD_val {l : List Nat} (h : digs l) (i : Nat) : l.getD i 0 = val l / 2 ^ (32 * i) % 4294967296 := by
  rw [getD_drop_zero, ← val_mod (digs_drop h i), val_drop h]

theorem val_take_succ {l : List Nat} {i : Nat} (hi : i < l.length) : val (l.take (i + 1)) = val (l.take i) + 2 ^ (32 * i) * l.getD i 0 := by
  rw [← List.take_append_getElem hi, val_append, List.length_take, Nat.min_eq_left (by omega), List.getD_eq_getElem?_getD, List.getElem?_eq_getElem hi]
  simp [val]

theorem val_drop_at {l : List Nat} {i : Nat} (hi : i < l.length) : val (l.drop i) = l.getD i 0 + 4294967296 * val (l.drop (i + 1)) := by
  rw [List.drop_eq_getElem_cons hi]
  simp [val, List.getD_eq_getElem?_getD, List.getElem?_eq_getElem hi]

theorem val_set {l : List Nat} {i d : Nat} (hi : i < l.length) : val (l.set i d) + 2 ^ (32 * i) * l.getD i 0 = val l + 2 ^ (32 * i) * d := by
  have e1 := val_take_drop (l.set i d) i (by simp; omega)
  have e2 := val_take_drop l i (by omega)
  rw [List.take_set_of_le (by omega), List.drop_set] at e1
  rw [if_neg (by omega), Nat.sub_self] at e1
  rw [e1, e2, List.drop_eq_getElem_cons hi]
  simp only [List.set_cons_zero, val, List.getD_eq_getElem?_getD, List.getElem?_eq_getElem hi, Option.getD_some]
  rw [Nat.mul_add, Nat.mul_add]
  omega

theorem length_dg_le {n k : Nat} : (dg n).length ≤ k ↔ n < 2 ^ (32 * k) := by
  constructor
  · intro h
    have h1 := val_lt (digs_dg n)
    rw [val_dg] at h1
    exact Nat.lt_of_lt_of_le h1 (Nat.pow_le_pow_right (by decide) (by omega))
  · induction k generalizing n with
    | zero => intro h; have : n = 0 := by simpa using h
              subst this; rw [dg_zero]; simp
    | succ k ih =>
      intro h
      by_cases h0 : n = 0
      · subst h0; rw [dg_zero]; simp
      · rw [dg_pos h0]
        have : n / 4294967296 < 2 ^ (32 * k) := by
          rw [Nat.div_lt_iff_lt_mul (by decide), show (4294967296 : Nat) = 2 ^ 32 from rfl, ← Nat.pow_add]
          exact h
        have := ih this
        simp; omega

theorem dg_ne_nil {n : Nat} (h : n ≠ 0) : 0 < (dg n).length := by rw [dg_pos h]; simp

theorem le_of_length {n : Nat} (h : n ≠ 0) : 2 ^ (32 * ((dg n).length - 1)) ≤ n := by
  have := dg_ne_nil h
  apply Nat.le_of_not_lt
  intro h1
  have := length_dg_le.2 h1
  omega

/-- more digits, more -/
theorem lt_of_length_lt {a b : Nat} (h : (dg a).length < (dg b).length) : a < b := by
  have h1 : a < 2 ^ (32 * (dg a).length) := length_dg_le.1 (Nat.le_refl _)
  apply Nat.lt_of_not_le
  intro h2
  have := length_dg_le.2 (Nat.lt_of_le_of_lt h2 h1)
  omega

theorem length_dg_mono {a b : Nat} (h : a ≤ b) : (dg a).length ≤ (dg b).length :=
  length_dg_le.2 (Nat.lt_of_le_of_lt h (length_dg_le.1 (Nat.le_refl _)))

theorem length_dg_val {l : List Nat} (h : digs l) : (dg (val l)).length ≤ l.length := length_dg_le.2 (val_lt h)

/-- how many bits -/
def bl (n : Nat) : Nat := if n = 0 then 0 else Nat.log2 n + 1

theorem bl_zero : bl 0 = 0 := rfl
theorem bl_le {n k : Nat} : bl n ≤ k ↔ n < 2 ^ k := by
  unfold bl
  split
  · rename_i h; subst h; simp [Nat.two_pow_pos]
  · rename_i h
    rw [← Nat.log2_lt h]
    omega
theorem lt_bl {n k : Nat} : k < bl n ↔ 2 ^ k ≤ n := by
  have := @bl_le n k
  omega
theorem lt_two_bl (n : Nat) : n < 2 ^ bl n := bl_le.1 (Nat.le_refl _)
theorem two_bl_le {n : Nat} (h : n ≠ 0) : 2 ^ (bl n - 1) ≤ n := by
  refine lt_bl.1 ?_
  have : 0 < bl n := by unfold bl; rw [if_neg h]; omega
  omega
theorem bl_pos {n : Nat} : 0 < bl n ↔ n ≠ 0 := by
  have := @lt_bl n 0
  omega
theorem bl_eq {n k : Nat} (h1 : 2 ^ k ≤ n) (h2 : n < 2 ^ (k + 1)) : bl n = k + 1 := by
  have := lt_bl.2 h1
  have := bl_le.2 h2
  omega
theorem bl_mono {a b : Nat} (h : a ≤ b) : bl a ≤ bl b := bl_le.2 (Nat.lt_of_le_of_lt h (lt_two_bl b))
theorem bl_mul_two_pow {n : Nat} (h : n ≠ 0) (k : Nat) : bl (n * 2 ^ k) = bl n + k := by
  have h1 := two_bl_le h
  have h2 := lt_two_bl n
  have h0 := bl_pos.2 h
  have hk := Nat.two_pow_pos k
  have e : bl n + k = (bl n - 1 + k) + 1 := by omega
  rw [e]
  refine bl_eq ?_ ?_
  · rw [Nat.pow_add]; exact Nat.mul_le_mul_right _ h1
  · rw [show bl n - 1 + k + 1 = bl n + k by omega, Nat.pow_add]; exact Nat.mul_lt_mul_of_pos_right h2 hk
theorem bl_div_two_pow (n k : Nat) : bl (n / 2 ^ k) = bl n - k := by
  by_cases h : n / 2 ^ k = 0
  · rw [h, bl_zero]
    have : n < 2 ^ k := by
      rcases Nat.div_eq_zero_iff.1 h with h1 | h1
      · have := Nat.two_pow_pos k; omega
      · exact h1
    have := bl_le.2 this
    omega
  · have hk := Nat.two_pow_pos k
    have hn : 2 ^ k ≤ n := by
      apply Nat.le_of_not_lt
      intro h1
      exact h (Nat.div_eq_of_lt h1)
    have hn0 : n ≠ 0 := by omega
    have h1 := two_bl_le hn0
    have h2 := lt_two_bl n
    have h3 := lt_bl.2 hn
    rw [show bl n - k = (bl n - k - 1) + 1 by omega]
    refine bl_eq ?_ ?_
    · rw [Nat.le_div_iff_mul_le hk, ← Nat.pow_add, show bl n - k - 1 + k = bl n - 1 by omega]; exact h1
    · rw [Nat.div_lt_iff_lt_mul hk, ← Nat.pow_add, show bl n - k - 1 + 1 + k = bl n by omega]; exact h2

theorem length_dg_bl {n k : Nat} : (dg n).length ≤ k ↔ bl n ≤ 32 * k := length_dg_le.trans bl_le.symm

/-- how many noughts at the low end -/
def tzF : Nat → Nat → Nat
  | 0, _ => 0
  | f + 1, n => if n = 0 then 0 else if n % 2 = 1 then 0 else tzF f (n / 2) + 1
def tz (n : Nat) : Nat := tzF n n
theorem tzF_eq : ∀ (f g n : Nat), n ≤ f → n ≤ g → tzF f n = tzF g n
  | 0, g, n, h, _ => by
    have : n = 0 := by omega
    subst this
    cases g <;> simp [tzF]
  | f + 1, 0, n, _, h => by
    have : n = 0 := by omega
    subst this
    simp [tzF]
  | f + 1, g + 1, n, h, h' => by
    simp only [tzF]
    by_cases h0 : n = 0
    · rw [if_pos h0, if_pos h0]
    · have : n / 2 < n := Nat.div_lt_self (by omega) (by omega)
      rw [if_neg h0, if_neg h0, tzF_eq f g (n / 2) (by omega) (by omega)]

theorem tz_zero : tz 0 = 0 := rfl
theorem tz_odd {n : Nat} (h : n % 2 = 1) : tz n = 0 := by
  obtain ⟨f, rfl⟩ : ∃ f, n = f + 1 := ⟨n - 1, by omega⟩
  show tzF (f + 1) (f + 1) = 0
  rw [tzF, if_neg (by omega), if_pos h]
theorem tz_even {n : Nat} (h0 : n ≠ 0) (h : n % 2 = 0) : tz n = tz (n / 2) + 1 := by
  obtain ⟨f, rfl⟩ : ∃ f, n = f + 1 := ⟨n - 1, by omega⟩
  have : (f + 1) / 2 < f + 1 := Nat.div_lt_self (by omega) (by omega)
  show tzF (f + 1) (f + 1) = tzF _ _ + 1
  rw [tzF, if_neg h0, if_neg (by omega), tzF_eq f ((f + 1) / 2) ((f + 1) / 2) (by omega) (by omega)]

theorem tz_spec {n : Nat} (h : n ≠ 0) : ∃ m, n = 2 ^ tz n * (2 * m + 1) := by
  induction n using Nat.strongRecOn with
  | _ n ih =>
    by_cases h1 : n % 2 = 1
    · rw [tz_odd h1]; exact ⟨n / 2, by omega⟩
    · rw [tz_even h (by omega)]
      obtain ⟨m, hm⟩ := ih (n / 2) (Nat.div_lt_self (by omega) (by omega)) (by omega)
      refine ⟨m, ?_⟩
      rw [Nat.pow_succ, Nat.mul_right_comm, ← hm]
      omega

theorem tz_mul (k m : Nat) : tz (2 ^ k * (2 * m + 1)) = k := by
  induction k with
  | zero => exact tz_odd (by omega)
  | succ k ih =>
    have h0 := Nat.two_pow_pos k
    have e : 2 ^ (k + 1) * (2 * m + 1) = 2 * (2 ^ k * (2 * m + 1)) := by rw [Nat.pow_succ, Nat.mul_comm (2 ^ k) 2, Nat.mul_assoc]
    have h1 : 0 < 2 ^ k * (2 * m + 1) := Nat.mul_pos h0 (by omega)
    rw [e, tz_even (by omega) (by omega), Nat.mul_div_cancel_left _ (by omega), ih]

theorem tz_mul_two_pow {n : Nat} (h : n ≠ 0) (k : Nat) : tz (n * 2 ^ k) = tz n + k := by
  obtain ⟨m, hm⟩ := tz_spec h
  have e : n * 2 ^ k = 2 ^ (tz n + k) * (2 * m + 1) := by
    conv => lhs; rw [hm]
    rw [Nat.pow_add, Nat.mul_right_comm]
  rw [e, tz_mul]

theorem two_tz_dvd (n : Nat) : 2 ^ tz n ∣ n := by
  by_cases h : n = 0
  · subst h; exact Nat.dvd_zero _
  · obtain ⟨m, hm⟩ := tz_spec h
    exact ⟨_, hm⟩
theorem div_tz_odd {n : Nat} (h : n ≠ 0) : n / 2 ^ tz n % 2 = 1 := by
  obtain ⟨m, hm⟩ := tz_spec h
  have e : n / 2 ^ tz n = 2 * m + 1 := by
    conv => lhs; arg 1; rw [hm]
    exact Nat.mul_div_cancel_left _ (Nat.two_pow_pos _)
  omega
theorem dvd_iff_le_tz {n : Nat} (h : n ≠ 0) (k : Nat) : n % 2 ^ k = 0 ↔ k ≤ tz n := by
  obtain ⟨m, hm⟩ := tz_spec h
  constructor
  · intro h1
    apply Nat.le_of_not_lt
    intro hlt
    obtain ⟨c, hc⟩ := Nat.dvd_of_mod_eq_zero h1
    have e : 2 ^ k = 2 ^ tz n * (2 * 2 ^ (k - tz n - 1)) := by
      rw [← Nat.pow_succ', ← Nat.pow_add]; congr 1; omega
    rw [e, Nat.mul_assoc] at hc
    have := Nat.eq_of_mul_eq_mul_left (Nat.two_pow_pos _) (hm.symm.trans hc)
    rw [Nat.mul_assoc] at this
    omega
  · intro h1
    apply Nat.mod_eq_zero_of_dvd
    exact Nat.dvd_trans (Nat.pow_dvd_pow 2 h1) (two_tz_dvd n)
theorem tz_lt_bl {n : Nat} (h : n ≠ 0) : tz n < bl n := by
  refine lt_bl.2 ?_
  exact Nat.le_of_dvd (by omega) (two_tz_dvd n)

end Go.Dy
