/- The layer dyad's functions answer as said: whole numbers, sums, products. -/
import Derived.Test.YtnhbdcnnanfacaaDoorAIdyad1
import Derived.Test.YtnhbdcnnanfacaaDoorAVdyad2
namespace Go.Dy
set_option maxRecDepth 100000
theorem halved_big {x y : List Nat} (hx : may x = true) (hy : may y = true) : bl (val x + val y) ≤ 131073 := by
  have h1 := bl_le.1 (may_bl hx)
  have h2 := bl_le.1 (may_bl hy)
  have gen : ∀ K : Nat, val x < 2 ^ K → val y < 2 ^ K → bl (val x + val y) ≤ K + 1 := fun K h1 h2 => bl_le.2 (by rw [Nat.pow_succ]; omega)
  exact gen _ h1 h2
theorem half_bl {n : Nat} (h : bl n ≤ 131073) : bl (n / 2) ≤ 131072 := by
  have := bl_div_two_pow n 1
  rw [Nat.pow_one] at this
  omega
theorem bl_dec {a b : Nat} (h : a ≤ b) {k : Nat} (hb : bl b ≤ k) : bl a ≤ k := Nat.le_trans (bl_mono h) hb
theorem edge_aux {X H K : Nat} (hX : bl X = K + 1) (hH : bl H ≤ K) : H < X ∧ 0 < 2 * (X - H) ∧ X - H < 2 ^ (K + 1) ∧ (K + 1 < bl (2 * (X - H)) → (bl (X - H) = tz (X - H) + 1 → X - H = 2 ^ K) ∧ (X - H ≠ 2 ^ K → K + 1 < bl (2 * (X - H) - 1))) ∧
    (X - H = 2 ^ K → bl (X - H) = tz (X - H) + 1 ∧ bl (2 * (X - H) - 1) ≤ K + 1) := by
  have h1 : 2 ^ K ≤ X := lt_bl.1 (by omega)
  have h2 : X < 2 ^ (K + 1) := bl_le.1 (by omega)
  have h3 : H < 2 ^ K := bl_le.1 hH
  have h5 : 2 ^ (K + 1) = 2 ^ K * 2 := Nat.pow_succ ..
  have h6 : 2 ^ (K + 1 + 1) = 2 ^ (K + 1) * 2 := Nat.pow_succ ..
  have hpos := Nat.two_pow_pos K
  refine ⟨by omega, by omega, by omega, fun hb => ⟨fun ht => ?_, fun hne => ?_⟩, fun he => ⟨?_, ?_⟩⟩
  · have h7 : 2 ^ (K + 1) ≤ 2 * (X - H) := lt_bl.1 hb
    have hS : X - H ≠ 0 := by omega
    obtain ⟨q, hq⟩ := tz_spec hS
    have hS1 : 2 ^ K ≤ X - H := by omega
    have hS2 : X - H < 2 ^ (K + 1) := by omega
    generalize X - H = S at *
    have h8 : bl S = K + 1 := bl_eq (by omega) (by omega)
    have hz : tz S = K := by omega
    rw [hz] at hq
    by_cases c : q = 0
    · rw [c] at hq; omega
    · exfalso
      have : 2 ^ K * 2 ≤ 2 ^ K * (2 * q + 1) := Nat.mul_le_mul_left _ (by omega)
      omega
  · have h7 : 2 ^ (K + 1) ≤ 2 * (X - H) := lt_bl.1 hb
    refine lt_bl.2 ?_
    omega
  · rw [he]
    have := tz_mul K 0
    rw [Nat.mul_zero, Nat.zero_add, Nat.mul_one] at this
    rw [this]
    exact bl_eq (Nat.le_refl _) (by omega)
  · rw [he]
    exact bl_le.2 (by omega)
theorem cmpZ_scale {a b : Nat} : cmpZ a b = if a < b then -1 else if b < a then 1 else 0 := by
  unfold cmpZ; simp only [Int.ofNat_lt]
end Go.Dy
namespace Go.AI
open Go Go.RowKit Go.Proofs
set_option linter.unusedVariables false
set_option maxRecDepth 100000
theorem makeD_small {s : Bool} {n : Nat} (h : n < 18446744073709551616) (e : Int) (he : -16777100 ≤ e ∧ e ≤ 16777100) : Dy.makeD s (Dy.dg n) e = (Dy.form s n e, 0) := by
  have hb : Dy.bl n ≤ 64 := Dy.bl_le.2 (by omega)
  rw [Dy.makeD_dg (by omega)]
  by_cases c : n = 0
  · subst c; rfl
  · have ht := Dy.tz_lt_bl c
    rw [Dy.form_pos c]
    unfold Dy.boundD
    have hl : (Dy.dg (n / 2 ^ Dy.tz n)).length ≤ 4096 := by rw [Dy.len_bl, Dy.bl_div_two_pow]; omega
    simp only [if_pos hl]
    rw [if_pos (by rw [Dy.inside_iff]; omega)]
theorem ok_dyad_Int (args : List AV) (s : Spec) (h : dInt args = some s) (hp : andO s.pre True) : Contract Tryd.prog Inv 24 args s.res := by
  unfold dInt at h
  split at h
  · cases h
    rename_i n
    refine contract0 false ok_tab11 Tryd.func24 (by kernel_rfl) (by kernel_rfl) fun hok => ?_
    have hn := range_i64 (oks1_num hok).1
    rw [vc_dyad_Int, wrap_u64, wrap_u64]
    unfold Dy.intD Dy.formZ
    refine cond_i (fun h => ?_) (fun h => ?_)
    · have h := of_decide_eq_true h
      rw [show ((0 - n % 18446744073709551616) % 18446744073709551616).toNat = n.natAbs by omega, makeD_small (by omega) _ (by omega)]
      rintro _ rfl _ rfl _ rfl _ -
      rfl
    · have h := of_decide_eq_false h
      rw [show (n % 18446744073709551616).toNat = n.natAbs by omega, makeD_small (by omega) _ (by omega)]
      rintro _ rfl _ rfl _ rfl _ -
      rfl
  · cases h
theorem int64_end (N : Nat) (s : Bool) (K X Y : Int) (hK : K = 9223372036854775808) (hX : (N : Int) ≤ K → X = -(N : Int)) (hY : (N : Int) < K → Y = N) (r : Int × Bool) (hr : r = (if decide (-K ≤ Dy.sgn s N ∧ Dy.sgn s N < K) = true then (Dy.sgn s N, true) else (0, false))) :
    bif s then ∀ b1 : Bool, b1 = decide ((N : Int) ≤ K) → bif b1 then AV.tup [AV.num .i64 X, AV.bool true] = AV.tup [.num .i64 r.1, .bool r.2]
      else bif !s then ∀ b2 : Bool, b2 = decide ((N : Int) < K) → bif b2 then AV.tup [AV.num .i64 Y, AV.bool true] = AV.tup [.num .i64 r.1, .bool r.2]
          else AV.tup [AV.num .i64 0, AV.bool false] = AV.tup [.num .i64 r.1, .bool r.2]
        else AV.tup [AV.num .i64 0, AV.bool false] = AV.tup [.num .i64 r.1, .bool r.2]
    else bif !s then ∀ b2 : Bool, b2 = decide ((N : Int) < K) → bif b2 then AV.tup [AV.num .i64 Y, AV.bool true] = AV.tup [.num .i64 r.1, .bool r.2]
          else AV.tup [AV.num .i64 0, AV.bool false] = AV.tup [.num .i64 r.1, .bool r.2]
        else AV.tup [AV.num .i64 0, AV.bool false] = AV.tup [.num .i64 r.1, .bool r.2] := by
  subst hr
  cases s
  · simp only [cond_false, cond_true, Bool.not_false]
    have e : Dy.sgn false N = (N : Int) := rfl
    rw [e]
    intro b hb
    by_cases h3 : (N : Int) < K
    · rw [hb, decide_eq_true h3, cond_true, decide_eq_true (show -K ≤ (N : Int) ∧ (N : Int) < K from ⟨by omega, h3⟩), if_pos rfl, hY h3]
    · rw [hb, decide_eq_false h3, cond_false, decide_eq_false (fun h => h3 h.2), if_neg (by simp)]
  · simp only [cond_false, cond_true, Bool.not_true]
    have e : Dy.sgn true N = -(N : Int) := rfl
    rw [e]
    intro b hb
    by_cases h3 : (N : Int) ≤ K
    · rw [hb, decide_eq_true h3, cond_true, decide_eq_true (show -K ≤ -(N : Int) ∧ -(N : Int) < K from ⟨by omega, by omega⟩), if_pos rfl, hX h3]
    · rw [hb, decide_eq_false h3, cond_false, decide_eq_false (fun h => h3 (by omega)), if_neg (by simp)]
theorem neg64 {N : Nat} (h : (N : Int) ≤ 9223372036854775808) : IntKind.i64.wrap (IntKind.u64.wrap (0 - (N : Int))) = -(N : Int) := by
  rw [wrap_u64]
  simp [IntKind.wrap, IntKind.signed, IntKind.bits]
  omega
theorem ok_dyad_Int64 (args : List AV) (s : Spec) (h : dInt64 args = some s) (hp : andO s.pre True) : Contract Tryd.prog Inv 26 args s.res := by
  unfold dInt64 at h
  split at h
  · cases h
    rename_i s m e
    refine contract0 false ok_tab11 Tryd.func26 (by kernel_rfl) (by kernel_rfl) fun hok => ?_
    rw [vc_dyad_Int64]
    unfold Dy.int64D
    refine cond_i (fun h => ?_) (fun h => cond_i (fun h1 => ?_) (fun h1 => cond_i (fun h2 => ?_) (fun h2 => ?_)))
    · simp only [Bool.not_eq_true'] at h
      simp only [h, Bool.false_and, Bool.false_eq_true, if_false]
    · simp only [Bool.not_eq_false'] at h
      have h1 := of_decide_eq_true h1
      simp only [h, decide_eq_false (show ¬ 0 ≤ e by omega), Bool.true_and, Bool.false_and, Bool.false_eq_true, if_false]
    · simp only [Bool.not_eq_false'] at h
      have h1 := of_decide_eq_false h1
      have h2 := of_decide_eq_true h2
      rw [if_pos h] at h2
      simp only [h, decide_eq_false (show ¬ Dy.topD ⟨s, m, e⟩ ≤ 64 by omega), Bool.and_false, Bool.false_and, Bool.false_eq_true, if_false]
    · simp only [Bool.not_eq_false'] at h
      have h1 := of_decide_eq_false h1
      have h2 := of_decide_eq_false h2
      rw [if_pos h] at h2
      obtain ⟨e, rfl⟩ := Int.eq_ofNat_of_zero_le (show 0 ≤ e by omega)
      have hm := Dy.mayD_may h
      have hb := Dy.may_bl hm
      have key : (Dy.shiftN m (e : Int)).mag = Dy.dg (Dy.val m * 2 ^ e) ∧ Dy.val m * 2 ^ e < 2 ^ 64 := by
        by_cases c : m = []
        · subst c
          refine ⟨?_, by simp [Dy.val]⟩
          unfold Dy.shiftN
          rw [if_pos hm]
          simp [Dy.val, Dy.dg_zero]
        · have hv := Dy.val_ne hm c
          unfold Dy.topD at h2
          simp only [if_neg c] at h2
          exact ⟨Dy.shiftN_up hm e (by omega), Dy.bl_le.1 (by rw [Dy.bl_mul_two_pow hv]; omega)⟩
      obtain ⟨k1, k2⟩ := key
      rw [k1]
      intro l1 hl _ _ _ _ n4 hn b5 hb5
      rw [hl, Dy.val_dg] at hn
      have hmay : Dy.may (Dy.dg (Dy.val m * 2 ^ e)) = true := Dy.may_dgn.2 (Dy.len_bl.2 (by have := Dy.bl_le.2 k2; omega))
      have hlen : (Dy.dg (Dy.val m * 2 ^ e)).length ≤ 2 := Dy.length_dg_bl.2 (by have := Dy.bl_le.2 k2; omega)
      rw [hmay, decide_eq_true hlen] at hn
      simp only [Bool.and_self, if_true] at hn
      have hat : Dy.at_ ⟨s, m, (e : Int)⟩ 0 = Dy.sgn s (Dy.val m * 2 ^ e) := by
        rw [Dy.at_mk, show ((e : Int) - 0).toNat = e by omega]
      rw [hat]
      simp only [h, decide_eq_true (show (0 : Int) ≤ (e : Int) by omega), decide_eq_true (show Dy.topD ⟨s, m, e⟩ ≤ 64 by omega), Bool.true_and]
      generalize Dy.val m * 2 ^ e = N at *
      subst hn
      exact int64_end N s _ _ _ rfl (fun h => neg64 h) (fun h => wrap_i64 (by omega) (by omega)) _ rfl
  · cases h
theorem ok_dyad_Neg (args : List AV) (s : Spec) (h : dNeg args = some s) (hp : andO s.pre True) : Contract Tryd.prog Inv 41 args s.res := by
  unfold dNeg at h
  split at h
  · cases h
    rename_i s m e
    refine contract0 false ok_tab11 Tryd.func41 (by kernel_rfl) (by kernel_rfl) fun hok => ?_
    rw [vc_dyad_Neg]
    unfold Dy.okIf
    refine cond_i (fun h => ?_) (fun h => ?_)
    · simp only [Bool.not_eq_true'] at h
      rw [h]; rfl
    · simp only [Bool.not_eq_false'] at h
      have := Dy.may_len (Dy.mayD_may h)
      refine ⟨by omega, ?_⟩
      rintro _ rfl _ rfl _ rfl
      rw [h]; rfl
  · cases h
theorem ok_dyad_Abs (args : List AV) (s : Spec) (h : dAbs args = some s) (hp : andO s.pre True) : Contract Tryd.prog Inv 42 args s.res := by
  unfold dAbs at h
  split at h
  · cases h
    rename_i s m e
    refine contract0 false ok_tab11 Tryd.func42 (by kernel_rfl) (by kernel_rfl) fun hok => ?_
    rw [vc_dyad_Abs]
    unfold Dy.okIf
    refine cond_i (fun h => ?_) (fun h => ?_)
    · simp only [Bool.not_eq_true'] at h
      rw [h]; rfl
    · simp only [Bool.not_eq_false'] at h
      have := Dy.may_len (Dy.mayD_may h)
      refine ⟨by omega, ?_⟩
      rintro _ rfl _ rfl _ rfl
      rw [h]; rfl
  · cases h
theorem ok_dyad_sizes (args : List AV) (s : Spec) (h : dSizes args = some s) (hp : andO s.pre True) : Contract Tryd.prog Inv 79 args s.res := by
  unfold dSizes at h
  split at h
  · cases h
    rename_i s m e s' m' e'
    obtain ⟨⟨hd, hd', hnn⟩, -⟩ := hp
    refine contract0 false ok_tab11 Tryd.func79 (by kernel_rfl) (by kernel_rfl) fun hok => ?_
    have hm := Dy.mayD_may hd
    have hm' := Dy.mayD_may hd'
    have b1 := Dy.may_bl hm
    have b2 := Dy.may_bl hm'
    have x1 := Dy.mayD_exp hd
    have x2 := Dy.mayD_exp hd'
    rw [vc_dyad_sizes, if_pos hd, if_pos hd']
    have l1 : Dy.lenN m = Dy.bl (Dy.val m) := by unfold Dy.lenN; rw [if_pos hm]
    have l2 : Dy.lenN m' = Dy.bl (Dy.val m') := by unfold Dy.lenN; rw [if_pos hm']
    rw [l1, l2, wrap_i64 (n := (Dy.bl (Dy.val m) : Int) - _) (by omega) (by omega), wrap_i64 (by omega) (by omega)]
    by_cases c : m = []
    · have c' := hnn.1 c
      subst c c'
      refine cond_f rfl (cond_f rfl (cond_f rfl ?_))
      rintro _ rfl _ - _ - _ rfl _ -
      rw [show (0 : Int) - ((Dy.bl (Dy.val []) : Int) - (Dy.bl (Dy.val []) : Int)) = -((0 : Nat) : Int) by omega, Dy.shiftN_neg hm]
      simp [Dy.val, Dy.dg_zero, Dy.cmpZ]
      rfl
    · have c' : m' ≠ [] := fun e => c (hnn.2 e)
      have v1 := Dy.val_ne hm c
      have v2 := Dy.val_ne hm' c'
      unfold Dy.topD
      simp only [if_neg c, if_neg c']
      have k1 := Dy.bl_mul_two_pow v1 (e - min e e').toNat
      have k2 := Dy.bl_mul_two_pow v2 (e' - min e e').toNat
      rw [Dy.cmpZ_scale]
      refine cond_i (fun h => ?_) (fun h => cond_i (fun h1 => ?_) (fun h1 => cond_i (fun h2 => ?_) (fun h2 => ?_)))
      · have h := of_decide_eq_true h
        rw [if_pos (Dy.bl_lt (by omega))]
      · have h1 := of_decide_eq_true h1
        have := Dy.bl_lt (a := Dy.val m' * 2 ^ (e' - min e e').toNat) (b := Dy.val m * 2 ^ (e - min e e').toNat) (by omega)
        rw [if_neg (by omega), if_pos this]
      · have h := of_decide_eq_false h
        have h1 := of_decide_eq_false h1
        have h2 := of_decide_eq_true h2
        obtain ⟨n, hn⟩ : ∃ n : Nat, (Dy.bl (Dy.val m) : Int) - (Dy.bl (Dy.val m') : Int) = n := ⟨((Dy.bl (Dy.val m) : Int) - (Dy.bl (Dy.val m') : Int)).toNat, by omega⟩
        rw [hn, Dy.shiftN_up hm' n (by omega)]
        rintro _ rfl _ - _ - _ rfl _ -
        have hmay : Dy.may (Dy.dg (Dy.val m' * 2 ^ n)) = true := Dy.may_dgn.2 (Dy.len_bl.2 (by rw [Dy.bl_mul_two_pow v2]; omega))
        unfold Dy.cmpR
        rw [hm, hmay, Dy.val_dg]
        rw [show (e - min e e').toNat = 0 by omega, show (e' - min e e').toNat = n by omega, Nat.pow_zero, Nat.mul_one]
        rfl
      · have h := of_decide_eq_false h
        have h1 := of_decide_eq_false h1
        have h2 := of_decide_eq_false h2
        obtain ⟨n, hn⟩ : ∃ n : Nat, (0 : Int) - ((Dy.bl (Dy.val m) : Int) - (Dy.bl (Dy.val m') : Int)) = n := ⟨((Dy.bl (Dy.val m') : Int) - (Dy.bl (Dy.val m) : Int)).toNat, by omega⟩
        rw [hn, Dy.shiftN_up hm n (by omega)]
        rintro _ rfl _ - _ - _ rfl _ -
        have hmay : Dy.may (Dy.dg (Dy.val m * 2 ^ n)) = true := Dy.may_dgn.2 (Dy.len_bl.2 (by rw [Dy.bl_mul_two_pow v1]; omega))
        unfold Dy.cmpR
        rw [hm', hmay, Dy.val_dg]
        rw [show (e' - min e e').toNat = 0 by omega, show (e - min e e').toNat = n by omega, Nat.pow_zero, Nat.mul_one]
        rfl
  · cases h
end Go.AI
