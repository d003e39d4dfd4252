/- The layer nat, its first functions: their contracts. -/
import Derived.Test.YtnhbdcnnanfacaaDoorAVnat1
namespace Go.Dy
theorem val_nil : val [] = 0 := rfl
theorem okl_take {l : List Nat} (h : okl l) (n : Nat) : okl (l.take n) := ⟨by rw [List.length_take]; have := h.1; omega, digs_take h.2 n⟩
theorem diffI_lt (a b : List Nat) : ∀ n, diffI a b n < n ∧ -1 ≤ diffI a b n
  | 0 => by simp [diffI]
  | n + 1 => by
    unfold diffI
    split
    · have := diffI_lt a b n; omega
    · omega
theorem diffI_ne (a b : List Nat) : ∀ n, 0 ≤ diffI a b n → a.getD (diffI a b n).toNat 0 ≠ b.getD (diffI a b n).toNat 0
  | 0, h => by simp [diffI] at h
  | n + 1, h => by
    unfold diffI at h ⊢
    split
    · rename_i e; rw [if_pos e] at h; exact diffI_ne a b n h
    · rename_i e; simpa using e
/-- the highest digit that differs decides -/
theorem cmp_diff {a b : List Nat} (ha : digs a) (hb : digs b) : ∀ n, n ≤ a.length → n ≤ b.length →
    if diffI a b n < 0 then val (a.take n) = val (b.take n) else (a.getD (diffI a b n).toNat 0 < b.getD (diffI a b n).toNat 0 ↔ val (a.take n) < val (b.take n)) ∧ val (a.take n) ≠ val (b.take n)
  | 0, _, _ => by simp [diffI]
  | n + 1, h1, h2 => by
    have ih := cmp_diff ha hb n (by omega) (by omega)
    rw [val_take_succ (by omega : n < a.length), val_take_succ (by omega : n < b.length)]
    have la := val_lt (digs_take ha n)
    have lb := val_lt (digs_take hb n)
    rw [List.length_take, Nat.min_eq_left (by omega)] at la lb
    unfold diffI
    by_cases e : a.getD n 0 = b.getD n 0
    · rw [if_pos e, e]
      by_cases hd : diffI a b n < 0
      · rw [if_pos hd] at ih ⊢
        rw [ih]
      · rw [if_neg hd] at ih ⊢
        refine ⟨ih.1.trans ?_, ?_⟩
        · omega
        · have := ih.2; omega
    · rw [if_neg e, if_neg (by omega)]
      simp only [Int.toNat_natCast]
      generalize a.getD n 0 = x at e ⊢
      generalize b.getD n 0 = y at e ⊢
      generalize val (List.take n a) = u at la ⊢
      generalize val (List.take n b) = v at lb ⊢
      generalize 2 ^ (32 * n) = p at la lb ⊢
      rcases Nat.lt_or_gt_of_ne e with h | h
      · have : p * (x + 1) ≤ p * y := Nat.mul_le_mul_left _ h
        rw [Nat.mul_add, Nat.mul_one] at this
        exact ⟨⟨fun _ => by omega, fun _ => h⟩, by omega⟩
      · have : p * (y + 1) ≤ p * x := Nat.mul_le_mul_left _ h
        rw [Nat.mul_add, Nat.mul_one] at this
        exact ⟨⟨fun _ => by omega, fun _ => by omega⟩, by omega⟩
theorem can_iff {l : List Nat} (h : digs l) : dg (val l) = l ↔ (l = [] ∨ l.getD (l.length - 1) 0 ≠ 0) := dg_val_iff h
theorem may_iff {l : List Nat} : may l = true ↔ l.length ≤ 4096 ∧ dg (val l) = l := by simp [may]
end Go.Dy
namespace Go.AI
open Go Go.RowKit Go.Proofs
set_option linter.unusedVariables false

theorem ok_tab0 : PhiOk Tryd.prog Inv (look tab0) := look_cons (look_cons look_nil okTz32) okLen32

theorem oks1_dig {p l : List Nat} {r : List AV} (h : AV.oks (.dig p l :: r)) : Dy.okl l ∧ AV.oks r := by
  simp only [AV.oks, AV.ok] at h
  exact ⟨Dy.okl_of h.1, h.2⟩
theorem oks1_num {k : IntKind} {n : Int} {r : List AV} (h : AV.oks (.num k n :: r)) : (k.min ≤ n ∧ n ≤ k.max) ∧ AV.oks r := by
  simp only [AV.oks, AV.ok] at h
  exact h
theorem range_u32 {n : Int} (h : IntKind.u32.min ≤ n ∧ n ≤ IntKind.u32.max) : 0 ≤ n ∧ n < 4294967296 := by
  simp [IntKind.min, IntKind.max, IntKind.bits, IntKind.signed] at h
  omega
theorem range_u64 {n : Int} (h : IntKind.u64.min ≤ n ∧ n ≤ IntKind.u64.max) : 0 ≤ n ∧ n < 18446744073709551616 := by
  simp [IntKind.min, IntKind.max, IntKind.bits, IntKind.signed] at h
  omega
theorem range_i64 {n : Int} (h : IntKind.i64.min ≤ n ∧ n ≤ IntKind.i64.max) : -9223372036854775808 ≤ n ∧ n < 9223372036854775808 := by
  simp [IntKind.min, IntKind.max, IntKind.bits, IntKind.signed] at h
  omega

theorem ok_nat_May (args : List AV) (s : Spec) (h : sMay args = some s) (hp : andO s.pre True) : Contract Tryd.prog Inv 58 args s.res := by
  unfold sMay at h
  split at h
  · cases h
    rename_i l
    refine contract0 false ok_tab0 Tryd.func58 (by kernel_rfl) (by kernel_rfl) fun hok => ?_
    have h0 := (oks1_dig hok).1
    have h1 := h0.1
    have h2 := h0.2
    rw [vc_nat_May]
    by_cases c1 : l.length ≤ 4096
    · refine cond_t (by simp; omega) ?_
      by_cases c2 : l = []
      · subst c2
        exact cond_t rfl (by simp [Dy.may, Dy.val, Dy.dg_zero])
      · have hl := List.length_pos_iff.2 c2
        refine cond_f (by simp; omega) ?_
        rw [wrap_i64 (by omega) (by omega), show ((l.length : Int) - 1).toNat = l.length - 1 by omega]
        refine ⟨by omega, ?_⟩
        have e : Dy.may l = !decide (((l.getD (l.length - 1) 0 : Nat) : Int) = 0) := by
          rw [Bool.eq_iff_iff, Dy.may_iff, Dy.can_iff h2]
          simp only [Bool.not_eq_true', decide_eq_false_iff_not]
          constructor
          · rintro ⟨_, h | h⟩
            · exact absurd h c2
            · omega
          · intro h; exact ⟨c1, .inr (by omega)⟩
        rw [e]
    · refine cond_f (by simp; omega) ?_
      have e : Dy.may l = false := by simp only [Dy.may, decide_eq_false_iff_not]; omega
      rw [e]
  · cases h

theorem loop_nat_trim : LoopOk Tryd.prog (look tab0) lamTrim 1 21 [(0, .same)] (bodyN Tryd.f95 0) lsTrim := by
  intro vals r h K hK
  unfold lsTrim at h
  split at h
  · cases h
    rename_i l
    simp only [evLR] at hK
    obtain ⟨hl, hK⟩ := hK
    generalize hn : l.length = n
    induction n generalizing l with
    | zero =>
      have : l = [] := List.length_eq_zero_iff.1 hn
      subst this
      refine iterN_last ?_
      rw [vc_nat_trim_1]
      refine cond_f rfl ?_
      rw [show Dy.dg (Dy.val []) = [] from Dy.dg_zero] at hK
      exact hK
    | succ n ih =>
      have hb := hl.1
      by_cases c : l.getD n 0 = 0
      · have e0 : ((l.length : Int) - 1).toNat = l.length - 1 := by omega
        have hw : IntKind.i64.wrap ((l.length : Int) - 1) = (l.length : Int) - 1 := wrap_i64 (by omega) (by omega)
        have hv : Dy.val (l.take (l.length - 1)) = Dy.val l := Dy.val_drop_last (fun e => by subst e; simp at hn) (by rw [hn]; exact c)
        obtain ⟨m, hm⟩ := ih (l.take (l.length - 1)) (Dy.okl_take hl _) (by rw [hv]; exact hK) (by rw [List.length_take]; omega)
        refine iterN_next m ?_
        rw [vc_nat_trim_1, hw, e0]
        refine cond_t (by simp; omega) ⟨by omega, cond_t (by rw [show l.length - 1 = n by omega]; simp; exact c) ⟨by omega, hm⟩⟩
      · refine iterN_last ?_
        have e0 : ((l.length : Int) - 1).toNat = l.length - 1 := by omega
        have hw : IntKind.i64.wrap ((l.length : Int) - 1) = (l.length : Int) - 1 := wrap_i64 (by omega) (by omega)
        rw [vc_nat_trim_1, hw, e0]
        refine cond_t (by simp; omega) ⟨by omega, cond_f (decide_eq_false (by rw [show l.length - 1 = n by omega]; omega)) ?_⟩
        have := (Dy.can_iff hl.2).2 (.inr (by rw [hn]; exact c))
        rw [this] at hK
        exact hK
  · cases h

theorem ok_nat_trim (args : List AV) (s : Spec) (h : sTrim args = some s) (hp : andO s.pre True) : Contract Tryd.prog Inv 95 args s.res := by
  unfold sTrim at h
  split at h
  · cases h
    rename_i l
    refine contract_at true 21 lamTrim ok_tab0 Tryd.func95 (by kernel_rfl) rfl (loops1 (by kernel_rfl) (by kernel_rfl) loop_nat_trim) fun hok => ?_
    obtain ⟨h1, -⟩ := oks1_dig hok
    rw [vc_nat_trim]
    exact ⟨h1, rfl⟩
  · cases h

theorem ok_tab1 : PhiOk Tryd.prog Inv (look tab1) := look_cons (look_cons ok_tab0 ok_nat_trim) ok_nat_May

theorem loop_nat_cmp : LoopOk Tryd.prog (look tab1) lamCmp 2 43 [(0, .same), (1, .same), (4, .same), (5, .same)] (bodyN Tryd.f105 0) lsCmp := by
  intro vals r h K hK
  unfold lsCmp at h
  split at h
  · cases h
    rename_i a b r i
    simp only [evLR] at hK
    obtain ⟨⟨hl, h1, h2, h3⟩, hK⟩ := hK
    generalize hn : (i + 1).toNat = n at hK
    induction n generalizing i with
    | zero =>
      have : i = -1 := by omega
      subst this
      refine iterN_last ?_
      rw [vc_nat_cmp_1]
      refine cond_f rfl ?_
      simpa [Dy.diffI] using hK
    | succ n ih =>
      have hi : i = n := by omega
      subst hi
      by_cases c : a.getD n 0 = b.getD n 0
      · have e : Dy.diffI a b (n + 1) = Dy.diffI a b n := by rw [Dy.diffI, if_pos c]
        rw [e] at hK
        obtain ⟨m, hm⟩ := ih ((n : Int) - 1) (by omega) (by omega) (by omega) hK
        refine iterN_next m ?_
        rw [vc_nat_cmp_1]
        refine cond_t (decide_eq_true (by omega)) ⟨by omega, by omega, cond_f ?_ ?_⟩
        · rw [show ((n : Int)).toNat = n from rfl, c]; simp
        · rw [wrap_i64 (by omega) (by omega)]; exact hm
      · have e : Dy.diffI a b (n + 1) = n := by rw [Dy.diffI, if_neg c]
        rw [e, decide_eq_true (by omega : (0 : Int) ≤ (n : Int))] at hK
        simp only [cond_true, Int.toNat_natCast] at hK
        refine iterN_last ?_
        rw [vc_nat_cmp_1]
        refine cond_t (decide_eq_true (by omega)) ⟨by omega, by omega, cond_t ?_ ⟨by omega, by omega, cond_i (fun h => ?_) (fun h => ?_)⟩⟩
        · rw [show ((n : Int)).toNat = n from rfl, decide_eq_false (by omega)]; rfl
        · rw [if_pos (by have := of_decide_eq_true h; rw [show ((n : Int)).toNat = n from rfl] at this; omega)] at hK; exact hK
        · rw [if_neg (by have := of_decide_eq_false h; rw [show ((n : Int)).toNat = n from rfl] at this; omega)] at hK; exact hK
  · cases h

theorem ok_nat_cmp (args : List AV) (s : Spec) (h : sCmp args = some s) (hp : andO s.pre True) : Contract Tryd.prog Inv 105 args s.res := by
  unfold sCmp at h
  split at h
  · cases h
    rename_i a b
    obtain ⟨⟨ca, cb⟩, -⟩ := hp
    refine contract_at false 43 lamCmp ok_tab1 Tryd.func105 (by kernel_rfl) rfl (loops1 (by kernel_rfl) (by kernel_rfl) loop_nat_cmp) fun hok => ?_
    have ha := (oks1_dig hok).1
    have hb := (oks1_dig (oks1_dig hok).2).1
    have ha1 := ha.1
    rw [vc_nat_cmp]
    refine cond_i (fun h => ?_) (fun h => cond_i (fun h' => ?_) (fun h' => ?_))
    · have h := of_decide_eq_true h
      have := @Dy.lt_of_length_lt (Dy.val a) (Dy.val b) (by rw [ca, cb]; omega)
      simp only [Dy.cmpN, if_pos this]
    · have h' := of_decide_eq_true h'
      have := @Dy.lt_of_length_lt (Dy.val b) (Dy.val a) (by rw [ca, cb]; omega)
      simp only [Dy.cmpN, if_pos this, if_neg (Nat.lt_asymm this)]
    · have h := of_decide_eq_false h
      have h' := of_decide_eq_false h'
      have hl : a.length = b.length := by omega
      rw [wrap_i64 (by omega) (by omega), show ((a.length : Int) - 1 + 1).toNat = a.length by omega]
      have key := Dy.cmp_diff ha.2 hb.2 a.length (Nat.le_refl _) (by omega)
      rw [List.take_length, hl, List.take_length] at key
      refine ⟨by omega, cond_i (fun h0 => ?_) (fun h0 => ?_)⟩
      · have h0 := of_decide_eq_true h0
        rw [hl] at h0 ⊢
        rw [if_neg (by omega)] at key
        by_cases c : a.getD (Dy.diffI a b b.length).toNat 0 < b.getD (Dy.diffI a b b.length).toNat 0
        · rw [if_pos c]
          simp only [Dy.cmpN, if_pos (key.1.1 c)]
        · have h1 : ¬ Dy.val a < Dy.val b := fun h => c (key.1.2 h)
          rw [if_neg c]
          simp only [Dy.cmpN, if_neg h1, if_pos (by omega : Dy.val b < Dy.val a)]
      · have h0 := of_decide_eq_false h0
        rw [hl] at h0
        rw [if_pos (by omega)] at key
        simp [Dy.cmpN, key]
  · cases h

theorem ok_nat_all (args : List AV) (s : Spec) (h : sAll args = some s) (hp : andO s.pre True) : Contract Tryd.prog Inv 98 args s.res := by
  unfold sAll at h
  split at h
  · cases h
    rename_i a b
    refine contract_at false 15 (lam [(2, .unroll 3)]) ok_tab1 Tryd.func98 (by kernel_rfl) rfl (loops1u (k := 3) (by kernel_rfl) (by kernel_rfl)) fun hok => ?_
    rw [vc_nat_all]
    refine ⟨by simp, cond_i (fun h => ?_) (fun h => ⟨by rw [wrap_i64 (by omega) (by omega)]; simp, cond_i (fun h' => ?_) (fun h' => ?_)⟩)⟩
    · simp at h; rw [h]; rfl
    · simp at h h'; rw [h, h']; rfl
    · simp at h h'; rw [h, h']; rfl
  · cases h

theorem ok_nat_bound (args : List AV) (s : Spec) (h : sBound args = some s) (hp : andO s.pre True) : Contract Tryd.prog Inv 99 args s.res := by
  unfold sBound at h
  split at h
  · cases h
    rename_i l
    refine contract0 true ok_tab1 Tryd.func99 (by kernel_rfl) (by kernel_rfl) fun hok => ?_
    rw [vc_nat_bound]
    refine cond_i (fun h => ?_) (fun h => ?_)
    · have h := of_decide_eq_true h
      simp only [if_neg (show ¬ l.length ≤ 4096 by omega)]
    · have h := of_decide_eq_false h
      simp only [if_pos (show l.length ≤ 4096 by omega)]
  · cases h

/-! bits of numbers -/
theorem ofInt_toNat {n : Nat} {x : Int} (h0 : 0 ≤ x) (h1 : x < 2 ^ n) : (BitVec.ofInt n x).toNat = x.toNat := by
  obtain ⟨k, rfl⟩ := Int.eq_ofNat_of_zero_le h0
  rw [BitVec.ofInt_natCast, BitVec.toNat_ofNat]
  refine Nat.mod_eq_of_lt ?_
  rw [show ((2 : Int) ^ n) = ((2 ^ n : Nat) : Int) by simp] at h1
  exact Int.ofNat_lt.1 h1
theorem w32_or {x y : Int} (h0 : 0 ≤ x) (h1 : x < 4294967296) (h2 : 0 ≤ y) (h3 : y < 4294967296) : IntKind.u32.wrap ((BitVec.ofInt 32 x ||| BitVec.ofInt 32 y).toNat : Int) = ((x.toNat ||| y.toNat : Nat) : Int) := by
  rw [BitVec.toNat_or, ofInt_toNat h0 h1, ofInt_toNat h2 h3, wrap_u32]
  have : x.toNat ||| y.toNat < 2 ^ 32 := Nat.or_lt_two_pow (by omega) (by omega)
  omega
theorem w32_and {x y : Int} (h0 : 0 ≤ x) (h1 : x < 4294967296) (h2 : 0 ≤ y) (h3 : y < 4294967296) : IntKind.u32.wrap ((BitVec.ofInt 32 x &&& BitVec.ofInt 32 y).toNat : Int) = ((x.toNat &&& y.toNat : Nat) : Int) := by
  rw [BitVec.toNat_and, ofInt_toNat h0 h1, ofInt_toNat h2 h3, wrap_u32]
  have : x.toNat &&& y.toNat < 2 ^ 32 := Nat.and_lt_two_pow _ (by omega)
  omega
theorem w32_xor {x y : Int} (h0 : 0 ≤ x) (h1 : x < 4294967296) (h2 : 0 ≤ y) (h3 : y < 4294967296) : IntKind.u32.wrap ((BitVec.ofInt 32 x ^^^ BitVec.ofInt 32 y).toNat : Int) = ((x.toNat ^^^ y.toNat : Nat) : Int) := by
  rw [BitVec.toNat_xor, ofInt_toNat h0 h1, ofInt_toNat h2 h3, wrap_u32]
  have : x.toNat ^^^ y.toNat < 2 ^ 32 := Nat.xor_lt_two_pow (by omega) (by omega)
  omega
theorem w64_or {x y : Int} (h0 : 0 ≤ x) (h1 : x < 18446744073709551616) (h2 : 0 ≤ y) (h3 : y < 18446744073709551616) : IntKind.u64.wrap ((BitVec.ofInt 64 x ||| BitVec.ofInt 64 y).toNat : Int) = ((x.toNat ||| y.toNat : Nat) : Int) := by
  rw [BitVec.toNat_or, ofInt_toNat h0 h1, ofInt_toNat h2 h3, wrap_u64]
  have : x.toNat ||| y.toNat < 2 ^ 64 := Nat.or_lt_two_pow (by omega) (by omega)
  omega
theorem or_low {a b k : Nat} (h : b < 2 ^ k) : a * 2 ^ k ||| b = a * 2 ^ k + b := by
  rw [Nat.mul_comm, ← Nat.two_pow_add_eq_or_of_lt h]
theorem fdiv_pow {x : Int} (h : 0 ≤ x) (k : Nat) : x.fdiv (2 ^ k) = ((x.toNat / 2 ^ k : Nat) : Int) := by
  obtain ⟨m, rfl⟩ := Int.eq_ofNat_of_zero_le h
  rw [Int.fdiv_eq_ediv_of_nonneg _ (by exact_mod_cast Nat.zero_le (2 ^ k))]
  simp

theorem bit31 {x : Nat} (h : x < 4294967296) : x.testBit 31 = decide (2147483648 ≤ x) := by
  rw [Nat.testBit_eq_decide_div_mod_eq]
  rw [show (2 : Nat) ^ 31 = 2147483648 from rfl]
  congr 1
  apply propext
  omega
theorem div31 {x : Nat} (h : x < 4294967296) : x / 2 ^ 31 = if x.testBit 31 then 1 else 0 := by
  rw [bit31 h, show (2 : Nat) ^ 31 = 2147483648 from rfl]
  split
  · rename_i h1; have := of_decide_eq_true h1; omega
  · rename_i h1; simp at h1; omega

theorem ok_Add32 (args : List AV) (s : Spec) (h : sAdd32 args = some s) (hp : andO s.pre True) : Contract Tryd.prog Inv 101 args s.res := by
  unfold sAdd32 at h
  split at h
  · cases h
    rename_i x y c
    refine contract0 false ok_tab1 Tryd.func101 (by kernel_rfl) (by kernel_rfl) fun hok => ?_
    have hx := range_u32 (oks1_num hok).1
    have hy := range_u32 (oks1_num (oks1_num hok).2).1
    have hc := range_u32 (oks1_num (oks1_num (oks1_num hok).2).2).1
    rw [vc_Add32]
    rw [fdiv_pow (by rw [wrap_u64]; omega)]
    simp only [wrap_u32, wrap_u64]
    congr 4
    · omega
    · congr 1; omega
  · cases h

theorem ok_Sub32 (args : List AV) (s : Spec) (h : sSub32 args = some s) (hp : andO s.pre True) : Contract Tryd.prog Inv 114 args s.res := by
  unfold sSub32 at h
  split at h
  · cases h
    rename_i x y c
    refine contract0 false ok_tab1 Tryd.func114 (by kernel_rfl) (by kernel_rfl) fun hok => ?_
    have hx := range_u32 (oks1_num hok).1
    have hy := range_u32 (oks1_num (oks1_num hok).2).1
    have hc := range_u32 (oks1_num (oks1_num (oks1_num hok).2).2).1
    have hc1 : c ≤ 1 := hp.1
    rw [vc_Sub32]
    have hd : IntKind.u32.wrap (IntKind.u32.wrap (x - y) - c) = (x - y - c) % 4294967296 := by simp only [wrap_u32]; omega
    rw [hd]
    have hd0 : 0 ≤ (x - y - c) % 4294967296 ∧ (x - y - c) % 4294967296 < 4294967296 := by omega
    generalize hdd : (x - y - c) % 4294967296 = d at hd0 ⊢
    have hm : (if IntKind.u32.signed = true then (-1 : Int) else IntKind.u32.max) = 4294967295 := by decide
    rw [hm]
    obtain ⟨X, rfl⟩ := Int.eq_ofNat_of_zero_le hx.1
    obtain ⟨Y, rfl⟩ := Int.eq_ofNat_of_zero_le hy.1
    obtain ⟨D, rfl⟩ := Int.eq_ofNat_of_zero_le hd0.1
    have hX : X < 4294967296 := by omega
    have hY : Y < 4294967296 := by omega
    have hD : D < 4294967296 := by omega
    have m0 : (4294967295 : Nat) < 2 ^ 32 := by decide
    have l1 : 4294967295 ^^^ X < 2 ^ 32 := Nat.xor_lt_two_pow m0 hX
    have l2 : X ^^^ Y < 2 ^ 32 := Nat.xor_lt_two_pow hX hY
    have l3 : 4294967295 ^^^ (X ^^^ Y) < 2 ^ 32 := Nat.xor_lt_two_pow m0 l2
    have l4 : (4294967295 ^^^ X) &&& Y < 2 ^ 32 := Nat.and_lt_two_pow _ hY
    have l5 : (4294967295 ^^^ (X ^^^ Y)) &&& D < 2 ^ 32 := Nat.and_lt_two_pow _ hD
    have l6 : (4294967295 ^^^ X) &&& Y ||| (4294967295 ^^^ (X ^^^ Y)) &&& D < 2 ^ 32 := Nat.or_lt_two_pow l4 l5
    rw [w32_xor (by omega) (by omega) (by omega) (by omega), w32_xor (x := (X : Int)) (y := (Y : Int)) (by omega) (by omega) (by omega) (by omega)]
    simp only [Int.toNat_natCast, show (4294967295 : Int).toNat = 4294967295 from rfl]
    rw [w32_xor (by omega) (by omega) (by omega) (by omega)]
    simp only [Int.toNat_natCast, show (4294967295 : Int).toNat = 4294967295 from rfl]
    rw [w32_and (by omega) (by omega) (by omega) (by omega), w32_and (by omega) (by omega) (by omega) (by omega)]
    simp only [Int.toNat_natCast]
    rw [w32_or (by omega) (by omega) (by omega) (by omega)]
    simp only [Int.toNat_natCast]
    rw [fdiv_pow (by omega)]
    simp only [Int.toNat_natCast]
    rw [div31 l6]
    simp only [Nat.testBit_or, Nat.testBit_and, Nat.testBit_xor, bit31 hX, bit31 hY, bit31 hD, show Nat.testBit 4294967295 31 = true by decide]
    have key : (if (((true ^^ decide (2147483648 ≤ X)) && decide (2147483648 ≤ Y)) || ((true ^^ (decide (2147483648 ≤ X) ^^ decide (2147483648 ≤ Y))) && decide (2147483648 ≤ D))) = true then 1 else 0 : Nat) = if (X : Int) < (Y : Int) + c then 1 else 0 := by
      by_cases a1 : 2147483648 ≤ X <;> by_cases a2 : 2147483648 ≤ Y <;> by_cases a3 : 2147483648 ≤ D <;> simp [a1, a2, a3] <;> omega
    rw [key]
    split <;> rfl
  · cases h

theorem ok_Div32 (args : List AV) (s : Spec) (h : sDiv32 args = some s) (hp : andO s.pre True) : Contract Tryd.prog Inv 111 args s.res := by
  unfold sDiv32 at h
  split at h
  · cases h
    rename_i x y c
    refine contract0 false ok_tab1 Tryd.func111 (by kernel_rfl) (by kernel_rfl) fun hok => ?_
    have hx := range_u32 (oks1_num hok).1
    have hy := range_u32 (oks1_num (oks1_num hok).2).1
    have hc := range_u32 (oks1_num (oks1_num (oks1_num hok).2).2).1
    have hxc : x < c := hp.1
    rw [vc_Div32]
    refine cond_t (by rw [decide_eq_false (by omega)]; rfl) (cond_f (decide_eq_false (by omega)) ?_)
    have e1 : IntKind.u64.wrap c = c := by rw [wrap_u64]; omega
    have e2 : IntKind.u64.wrap (IntKind.u64.wrap x * 2 ^ 32) = x * 4294967296 := by simp only [wrap_u64]; omega
    have e3 : IntKind.u64.wrap y = y := by rw [wrap_u64]; omega
    rw [e1, e2, e3, w64_or (by omega) (by omega) (by omega) (by omega)]
    refine ⟨by omega, by omega, ?_⟩
    have e4 : (x * 4294967296).toNat ||| y.toNat = x.toNat * 2 ^ 32 + y.toNat := by
      rw [← or_low (show y.toNat < 2 ^ 32 by omega)]
      congr 1
      omega
    rw [e4]
    obtain ⟨X, rfl⟩ := Int.eq_ofNat_of_zero_le hx.1
    obtain ⟨Y, rfl⟩ := Int.eq_ofNat_of_zero_le hy.1
    obtain ⟨C, rfl⟩ := Int.eq_ofNat_of_zero_le hc.1
    simp only [Int.toNat_natCast]
    have e5 : (X * 2 ^ 32 + Y) / C < 4294967296 := by
      rw [Nat.div_lt_iff_lt_mul (by omega)]
      have : (X + 1) * 4294967296 ≤ C * 4294967296 := Nat.mul_le_mul_right _ (by omega)
      rw [Nat.mul_comm 4294967296 C]
      omega
    have e6 : (X * 2 ^ 32 + Y) % C < C := Nat.mod_lt _ (by omega)
    have e7 : ((X : Int) * 4294967296 + Y) = ((X * 2 ^ 32 + Y : Nat) : Int) := by omega
    rw [← Int.ofNat_tdiv, ← Int.ofNat_tmod, e7, ← Int.natCast_ediv, ← Int.natCast_emod]
    generalize (X * 2 ^ 32 + Y) / C = q at e5 ⊢
    generalize (X * 2 ^ 32 + Y) % C = r at e6 ⊢
    have e8 : IntKind.u32.wrap (IntKind.u64.wrap (q : Int)) = q := by rw [wrap_u32, wrap_u64]; omega
    have e9 : IntKind.u32.wrap (r : Int) = r := by rw [wrap_u32]; omega
    rw [e8, e9]
  · cases h

theorem ok_Lz32 (args : List AV) (s : Spec) (h : sLz32 args = some s) (hp : andO s.pre True) : Contract Tryd.prog Inv 112 args s.res := by
  unfold sLz32 at h
  split at h
  · cases h
    rename_i x
    refine contract0 false ok_tab1 Tryd.func112 (by kernel_rfl) (by kernel_rfl) fun hok => ?_
    have hx := range_u32 (oks1_num hok).1
    rw [vc_Lz32]
    have := Lib.bitLen_le x.toNat 32 (by omega) (by omega)
    rw [wrap_i64 (by omega) (by omega)]
  · cases h

theorem ok_nat_Of (args : List AV) (s : Spec) (h : sOf args = some s) (hp : andO s.pre True) : Contract Tryd.prog Inv 64 args s.res := by
  unfold sOf at h
  split at h
  · cases h
    rename_i n
    refine contract0 false ok_tab1 Tryd.func64 (by kernel_rfl) (by kernel_rfl) fun hok => ?_
    have hn := range_u64 (oks1_num hok).1
    rw [vc_nat_Of]
    rw [fdiv_pow hn.1]
    simp only [wrap_u32, Dy.val]
    congr 2
    omega
  · cases h

theorem loop_nat_Num : LoopOk Tryd.prog (look tab1) lamNum 1 31 [(4, .same), (15, .same), (16, .same), (17, .same)] (bodyN Tryd.f66 0) lsNum := by
  intro vals r h K hK
  unfold lsNum at h
  split at h
  · cases h
    rename_i n l k i
    simp only [evLR] at hK
    obtain ⟨⟨rfl, rfl, rfl, hl, hd⟩, hK⟩ := hK
    have key : ∀ u j : Nat, l.length = u + j → ∃ m, iterN Tryd.prog (look tab1) lamNum 1 31 [(4, .same), (15, .same), (16, .same), (17, .same)] (bodyN Tryd.f66 0) m [.num .u64 (Dy.val (l.take j)), .dig [1, 2] l, .num .i64 l.length, .num .i64 j] K := by
      intro u
      induction u with
      | zero =>
        intro j hj
        refine iterN_last ?_
        rw [vc_nat_Num_1]
        refine cond_f (decide_eq_false (by omega)) ?_
        rw [List.take_of_length_le (by omega)]
        have : (j : Int) = (l.length : Int) := by omega
        rw [this]
        exact hK
      | succ u ih =>
        intro j hj
        obtain ⟨m, hm⟩ := ih (j + 1) (by omega)
        refine iterN_next m ?_
        rw [vc_nat_Num_1]
        have hx := Dy.digs_getD hd.2 j
        have hv := Dy.val_lt (Dy.digs_take hd.2 j)
        rw [List.length_take, Nat.min_eq_left (by omega)] at hv
        have hj2 : j = 0 ∨ j = 1 := by omega
        have hs : Dy.val (l.take (j + 1)) = Dy.val (l.take j) + 2 ^ (32 * j) * l.getD j 0 := Dy.val_take_succ (by omega)
        have hp : 2 ^ (32 * j) ≤ 4294967296 := by rcases hj2 with h | h <;> subst h <;> decide
        refine cond_t (decide_eq_true (by omega)) ⟨by omega, by rw [wrap_i64 (by omega) (by omega)]; omega, ?_⟩
        rw [wrap_i64 (by omega) (by omega), wrap_i64 (by omega) (by omega)]
        have e1 : ((32 * (j : Int)).toNat) = 32 * j := by omega
        have e2 : IntKind.u64.wrap (IntKind.u64.wrap ((l.getD (j : Int).toNat 0 : Nat) : Int) * 2 ^ min (32 * (j : Int)).toNat 64) = ((2 ^ (32 * j) * l.getD j 0 : Nat) : Int) := by
          rw [e1, Nat.min_eq_left (by omega), Int.toNat_natCast, wrap_u64, wrap_u64]
          rcases hj2 with h | h <;> subst h <;> omega
        have hm0 : 2 ^ (32 * j) * l.getD j 0 < 18446744073709551616 := by rcases hj2 with h | h <;> subst h <;> omega
        rw [e2, w64_or (by omega) (by omega) (by omega) (by omega), Int.toNat_natCast, Int.toNat_natCast, Nat.or_comm, Nat.mul_comm, or_low hv, Nat.mul_comm, Nat.add_comm, ← hs]
        exact hm
    exact key l.length 0 (by omega)
  · cases h

theorem ok_nat_Num (args : List AV) (s : Spec) (h : sNum args = some s) (hp : andO s.pre True) : Contract Tryd.prog Inv 66 args s.res := by
  unfold sNum at h
  split at h
  · cases h
    rename_i l
    refine contract_at false 31 lamNum ok_tab1 Tryd.func66 (by kernel_rfl) rfl (loops1 (by kernel_rfl) (by kernel_rfl) loop_nat_Num) fun hok => ?_
    have hl := (oks1_dig hok).1
    rw [vc_nat_Num]
    refine cond_i (fun h => ?_) (fun h => cond_i (fun h' => ?_) (fun h' => ⟨?_, ?_⟩))
    · simp at h; rw [h]; rfl
    · have h' := of_decide_eq_true h'
      simp only [decide_eq_false (show ¬ l.length ≤ 2 by omega), Bool.and_false]
      rfl
    · have h' := of_decide_eq_false h'
      exact ⟨rfl, rfl, rfl, by omega, hl⟩
    · have h' := of_decide_eq_false h'
      simp only [Bool.not_eq_false'] at h
      rw [h, decide_eq_true (show l.length ≤ 2 by omega)]
      rfl
  · cases h

theorem ok_tab2 : PhiOk Tryd.prog Inv (look tab2) :=
  look_cons (look_cons (look_cons (look_cons (look_cons (look_cons (look_cons (look_cons (look_cons ok_tab1 ok_nat_Num) ok_nat_Of) ok_Lz32) ok_Div32) ok_Sub32) ok_Add32) ok_nat_bound) ok_nat_all) ok_nat_cmp

end Go.AI
