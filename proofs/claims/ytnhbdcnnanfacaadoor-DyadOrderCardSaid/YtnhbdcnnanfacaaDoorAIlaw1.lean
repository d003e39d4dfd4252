/- The document's layer 2, its first functions, and the statements' own helpers answer as said. -/
import Derived.Test.YtnhbdcnnanfacaaDoorAIspec5
import Derived.Test.YtnhbdcnnanfacaaDoorAVlaw1
namespace Go.AI
open Go Go.RowKit Go.Proofs
set_option linter.unusedVariables false
set_option maxRecDepth 100000
theorem ok_ref2_Same (args : List AV) (s : Spec) (h : rSameD args = some s) (hp : andO s.pre True) : Contract Tryd.prog Inv 21 args s.res := by
  unfold rSameD at h
  split at h
  · cases h
    refine contract0 false ok_tab15 Tryd.func21 (by kernel_rfl) (by kernel_rfl) fun hok => ?_
    rw [vc_ref2_Same]
    unfold Dy.sameD
    refine cond_i (fun h => cond_i (fun h1 => ?_) (fun h1 => ?_)) (fun h => ?_)
    · simp only [of_decide_eq_true h, of_decide_eq_true h1, BEq.rfl, Bool.true_and]
    · have h1 := of_decide_eq_false h1
      simp [h1]
    · have h := of_decide_eq_false h
      simp [h]
  · cases h
theorem ok_ref2_May (args : List AV) (s : Spec) (h : dMay args = some s) (hp : andO s.pre True) : Contract Tryd.prog Inv 15 args s.res := by
  unfold dMay at h
  split at h
  · cases h
    rename_i s m e
    refine contract0 false ok_tab15 Tryd.func15 (by kernel_rfl) (by kernel_rfl) fun hok => ?_
    obtain ⟨hm, he, -⟩ := oks_d hok
    have hlow : ((m.getD 0 0 : Nat) : Int).tmod 2 = ((Dy.val m % 2 : Nat) : Int) := by
      rw [Int.tmod_eq_emod_of_nonneg (by omega), ← Dy.val_mod hm.2]
      omega
    rw [vc_ref2_May, hlow]
    unfold Dy.mayD Dy.inside
    refine cond_i (fun h => ?_) (fun h => cond_i (fun h1 => cond_i (fun h2 => ?_) (fun h2 => ?_)) (fun h1 => ⟨?_, cond_i (fun h2 => cond_i (fun h3 => ?_) (fun h3 => ?_)) (fun h2 => ?_)⟩))
    · simp only [Bool.not_eq_true'] at h
      simp only [h, Bool.false_and]
    · simp only [Bool.not_eq_false'] at h
      have h1 := List.length_eq_zero_iff.1 (Int.ofNat_eq_zero.1 (of_decide_eq_true h1))
      subst h1
      simp only [h, if_true, h2, Bool.true_and]
    · simp only [Bool.not_eq_false'] at h
      have h1 := List.length_eq_zero_iff.1 (Int.ofNat_eq_zero.1 (of_decide_eq_true h1))
      subst h1
      simp only [h, if_true, h2, Bool.true_and, Bool.false_and]
    · have h1 := of_decide_eq_false h1
      omega
    · simp only [Bool.not_eq_false'] at h
      have h1 := of_decide_eq_false h1
      have h2 := of_decide_eq_true h2
      have h3 := of_decide_eq_true h3
      have h1' : m ≠ [] := fun e => h1 (by rw [e]; rfl)
      simp only [h, if_neg h1', Bool.true_and]
      rw [decide_eq_true (show Dy.val m % 2 = 1 by omega), Bool.true_and]
      simp only [show -16777216 ≤ e from h3, true_and]
    · simp only [Bool.not_eq_false'] at h
      have h1 := of_decide_eq_false h1
      have h3 := of_decide_eq_false h3
      have h1' : m ≠ [] := fun e => h1 (by rw [e]; rfl)
      simp only [h, if_neg h1', Bool.true_and]
      simp only [show ¬ -16777216 ≤ e from h3, false_and, decide_false, Bool.and_false]
    · simp only [Bool.not_eq_false'] at h
      have h1 := of_decide_eq_false h1
      have h2 := of_decide_eq_false h2
      have h1' : m ≠ [] := fun e => h1 (by rw [e]; rfl)
      simp only [h, if_neg h1', Bool.true_and]
      rw [decide_eq_false (show ¬ Dy.val m % 2 = 1 by omega), Bool.false_and]
  · cases h
theorem ok_ref2_Form (args : List AV) (s : Spec) (h : rForm args = some s) (hp : andO s.pre True) : Contract Tryd.prog Inv 22 args s.res := by
  unfold rForm at h
  split at h
  · cases h
    rename_i s m e
    obtain ⟨⟨hc, hl, he1, he2⟩, -⟩ := hp
    refine contract0 false ok_tab15 Tryd.func22 (by kernel_rfl) (by kernel_rfl) fun hok => ?_
    obtain ⟨hm, -⟩ := oks1_dig (oks1_bool hok)
    rw [vc_ref2_Form]
    refine cond_i (fun h => ?_) (fun h => ?_)
    · have h := List.length_eq_zero_iff.1 (Int.ofNat_eq_zero.1 (of_decide_eq_true h))
      subst h
      rfl
    · have h := of_decide_eq_false h
      have h1' : m ≠ [] := fun e => h (by rw [e]; rfl)
      have hv : Dy.val m ≠ 0 := fun e => h1' (by rw [← hc, e, Dy.dg_zero])
      have ht := Dy.tz_lt_bl hv
      have hb := Dy.bl_le.2 (Dy.val_lt hm.2)
      refine ⟨⟨hc, hl⟩, ⟨hc, by omega, hl⟩, ?_⟩
      rw [Int.toNat_natCast, wrap_i64 (by omega) (by omega), Dy.form_pos hv]
      rintro _ rfl _ -
      rfl
  · cases h
theorem ok_ref2_Sign (args : List AV) (s : Spec) (h : rSign args = some s) (hp : andO s.pre True) : Contract Tryd.prog Inv 46 args s.res := by
  unfold rSign at h
  split at h
  · cases h
    rename_i s m e
    refine contract0 false ok_tab15 Tryd.func46 (by kernel_rfl) (by kernel_rfl) fun hok => ?_
    rw [vc_ref2_Sign]
    unfold Dy.signD
    refine cond_i (fun h1 => ?_) (fun h1 => ?_)
    · have h1 := List.length_eq_zero_iff.1 (Int.ofNat_eq_zero.1 (of_decide_eq_true h1))
      subst h1
      rfl
    · have h1 := of_decide_eq_false h1
      have h1' : m ≠ [] := fun e => h1 (by rw [e]; rfl)
      simp only [if_neg h1']
      cases s <;> rfl
  · cases h
theorem ok_ref2_Top (args : List AV) (s : Spec) (h : rTop args = some s) (hp : andO s.pre True) : Contract Tryd.prog Inv 47 args s.res := by
  unfold rTop at h
  split at h
  · cases h
    rename_i s m e
    obtain ⟨⟨hc, hl, he1, he2⟩, -⟩ := hp
    refine contract0 false ok_tab15 Tryd.func47 (by kernel_rfl) (by kernel_rfl) fun hok => ?_
    obtain ⟨hm, -⟩ := oks_d hok
    have hb := Dy.bl_le.2 (Dy.val_lt hm.2)
    rw [vc_ref2_Top]
    unfold Dy.topD
    refine cond_i (fun h1 => ?_) (fun h1 => ?_)
    · have h1 := List.length_eq_zero_iff.1 (Int.ofNat_eq_zero.1 (of_decide_eq_true h1))
      subst h1
      rfl
    · have h1 := of_decide_eq_false h1
      have h1' : m ≠ [] := fun e => h1 (by rw [e]; rfl)
      simp only [if_neg h1']
      rw [wrap_i64 (by omega) (by omega)]
      exact ⟨⟨hc, hl⟩, rfl⟩
  · cases h
theorem ok_ref2_Neg (args : List AV) (s : Spec) (h : rNeg args = some s) (hp : andO s.pre True) : Contract Tryd.prog Inv 44 args s.res := by
  unfold rNeg at h
  split at h
  · cases h
    rename_i s m e
    refine contract0 true ok_tab15 Tryd.func44 (by kernel_rfl) (by kernel_rfl) fun hok => ?_
    rw [vc_ref2_Neg]
    refine cond_i (fun h => ?_) (fun h => ?_)
    · have h := of_decide_eq_true h
      have h1' : m ≠ [] := fun e => by rw [e] at h; simp at h
      simp only [if_neg h1']
    · have h := of_decide_eq_false h
      have h1' : m = [] := List.length_eq_zero_iff.1 (by omega)
      simp only [if_pos h1']
  · cases h
theorem ok_ref2_Abs (args : List AV) (s : Spec) (h : rAbs args = some s) (hp : andO s.pre True) : Contract Tryd.prog Inv 45 args s.res := by
  unfold rAbs at h
  split at h
  · cases h
    refine contract0 true ok_tab15 Tryd.func45 (by kernel_rfl) (by kernel_rfl) fun hok => ?_
    rw [vc_ref2_Abs]
  · cases h
theorem ok_law2_lent (args : List AV) (s : Spec) (h : lLent args = some s) (hp : andO s.pre True) : Contract Tryd.prog Inv 13 args s.res := by
  unfold lLent at h
  split at h
  · cases h
    have hp := hp.1
    refine contract0 false ok_tab15 Tryd.func13 (by kernel_rfl) (by kernel_rfl) fun hok => ?_
    rw [vc_law2_lent]
    exact ⟨⟨by omega, by omega⟩, rfl⟩
  · cases h
theorem near_step {i n : Int} {s : Bool} {m : List Nat} {e : Int} {P R : Prop} (hi : 0 ≤ i ∧ i < n) (hf : Dy.nearD ⟨s, m, e⟩ = false → P) (hr : Dy.nearD ⟨s, m, e⟩ = true → R) :
    (0 ≤ i ∧ i < n) ∧ bif decide ((m.length : Int) > 100) then P else (0 ≤ i ∧ i < n) ∧ bif decide (e < -3000) then P else (0 ≤ i ∧ i < n) ∧ bif decide (e > 3000) then P else (0 ≤ i ∧ i < n) ∧ bif !Dy.mayD ⟨s, m, e⟩ then P else R := by
  unfold Dy.nearD at hf hr
  simp only at hf hr
  refine ⟨hi, cond_i (fun h => hf ?_) fun h => ⟨hi, cond_i (fun h1 => hf ?_) fun h1 => ⟨hi, cond_i (fun h2 => hf ?_) fun h2 => ⟨hi, cond_i (fun h3 => hf ?_) fun h3 => hr ?_⟩⟩⟩⟩
  · have h := of_decide_eq_true h
    rw [decide_eq_false (by omega), Bool.false_and]
  · have h1 := of_decide_eq_true h1
    rw [decide_eq_false (by omega), Bool.false_and]
  · have h2 := of_decide_eq_true h2
    rw [decide_eq_false (by omega), Bool.false_and]
  · simp only [Bool.not_eq_true'] at h3
    rw [h3, Bool.and_false]
  · have h := of_decide_eq_false h
    have h1 := of_decide_eq_false h1
    have h2 := of_decide_eq_false h2
    simp only [Bool.not_eq_false'] at h3
    rw [h3, decide_eq_true (by omega), Bool.and_self]
theorem ok_law2_near (args : List AV) (s : Spec) (h : lNear args = some s) (hp : andO s.pre True) : Contract Tryd.prog Inv 28 args s.res := by
  have w1 : IntKind.i64.wrap ((0 : Int) + 1) = 1 := rfl
  have w2 : IntKind.i64.wrap ((1 : Int) + 1) = 2 := rfl
  have w3 : IntKind.i64.wrap ((2 : Int) + 1) = 3 := rfl
  unfold lNear at h
  split at h
  · cases h
    refine contract_at false _ (lam [(2, .unroll 4)]) ok_tab15 Tryd.func28 (by kernel_rfl) rfl (loops1u (k := 4) (by kernel_rfl) (by kernel_rfl)) fun hok => ?_
    rw [vc_law2_near1]
    simp only [List.length_cons, List.length_nil, w1]
    exact cond_t (by simp) (near_step (by simp) (fun h => by rw [h]) fun h => cond_f (by simp) (by rw [h]))
  · cases h
    refine contract_at false _ (lam [(2, .unroll 4)]) ok_tab15 Tryd.func28 (by kernel_rfl) rfl (loops1u (k := 4) (by kernel_rfl) (by kernel_rfl)) fun hok => ?_
    rw [vc_law2_near2]
    simp only [List.length_cons, List.length_nil, w1, w2]
    exact cond_t (by simp) (near_step (by simp) (fun h => by rw [h]; rfl) fun h => cond_t (by simp) (near_step (by simp) (fun h1 => by rw [h, h1]; rfl) fun h1 => cond_f (by simp) (by rw [h, h1]; rfl)))
  · cases h
    refine contract_at false _ (lam [(2, .unroll 4)]) ok_tab15 Tryd.func28 (by kernel_rfl) rfl (loops1u (k := 4) (by kernel_rfl) (by kernel_rfl)) fun hok => ?_
    rw [vc_law2_near3]
    simp only [List.length_cons, List.length_nil, w1, w2, w3]
    exact cond_t (by simp) (near_step (by simp) (fun h => by rw [h]; rfl) fun h => cond_t (by simp) (near_step (by simp) (fun h1 => by rw [h, h1]; rfl) fun h1 => cond_t (by simp) (near_step (by simp) (fun h2 => by rw [h, h1, h2]; rfl) fun h2 => cond_f (by simp) (by rw [h, h1, h2]; rfl))))
  · cases h
theorem ok_tab16 : PhiOk Tryd.prog Inv (look tab16) :=
  look_cons (look_cons (look_cons (look_cons (look_cons (look_cons (look_cons (look_cons (look_cons ok_tab15 ok_law2_near) ok_law2_lent) ok_ref2_Abs) ok_ref2_Neg) ok_ref2_Top) ok_ref2_Sign) ok_ref2_Form) ok_ref2_May) ok_ref2_Same
theorem ok_ref2_Int (args : List AV) (s : Spec) (h : dInt args = some s) (hp : andO s.pre True) : Contract Tryd.prog Inv 25 args s.res := by
  unfold dInt at h
  split at h
  · cases h
    rename_i n
    refine contract0 false ok_tab16 Tryd.func25 (by kernel_rfl) (by kernel_rfl) fun hok => ?_
    have hn := range_i64 (oks1_num hok).1
    rw [vc_ref2_Int, wrap_u64, wrap_u64]
    unfold Dy.intD Dy.formZ
    have hlen : (Dy.dg n.natAbs).length ≤ 1048576 := Dy.length_dg_bl.2 (by have := (Dy.bl_le (n := n.natAbs) (k := 64)).2 (by omega); omega)
    refine cond_i (fun h => ?_) (fun h => ?_)
    · have h := of_decide_eq_true h
      rw [show ((0 - n % 18446744073709551616) % 18446744073709551616).toNat = n.natAbs by omega, Dy.val_dg]
      refine ⟨⟨rfl, hlen, by omega, by omega⟩, ?_⟩
      rintro _ rfl _ rfl _ rfl
      rfl
    · have h := of_decide_eq_false h
      rw [show (n % 18446744073709551616).toNat = n.natAbs by omega, Dy.val_dg]
      refine ⟨⟨rfl, hlen, by omega, by omega⟩, ?_⟩
      rintro _ rfl _ rfl _ rfl
      rfl
  · cases h
theorem neg64' {N : Nat} (h : (N : Int) ≤ 9223372036854775808) : IntKind.i64.wrap (0 - IntKind.i64.wrap (N : Int)) = -(N : Int) := by
  simp [IntKind.wrap, IntKind.signed, IntKind.bits]
  omega
theorem ok_ref2_Int64 (args : List AV) (s : Spec) (h : rInt64 args = some s) (hp : andO s.pre True) : Contract Tryd.prog Inv 27 args s.res := by
  unfold rInt64 at h
  split at h
  · cases h
    rename_i s m e
    have hd := hp.1
    refine contract0 false ok_tab16 Tryd.func27 (by kernel_rfl) (by kernel_rfl) fun hok => ?_
    have hm := Dy.mayD_may hd
    have hl := Dy.may_len hm
    have hx := Dy.mayD_exp hd
    have hb := Dy.may_bl hm
    rw [vc_ref2_Int64]
    unfold Dy.int64D
    rw [hd, Bool.true_and]
    refine cond_i (fun h => ?_) (fun h => cond_i (fun h1 => ?_) (fun h1 => ⟨⟨Dy.may_dg hm, by omega, by omega, by omega⟩, cond_i (fun h2 => ?_) (fun h2 => ?_)⟩))
    · have h := List.length_eq_zero_iff.1 (Int.ofNat_eq_zero.1 (of_decide_eq_true h))
      subst h
      obtain ⟨rfl, rfl⟩ := Dy.mayD_nil hd
      rfl
    · have h1 := of_decide_eq_true h1
      simp only [decide_eq_false (show ¬ 0 ≤ e by omega), Bool.false_and, Bool.false_eq_true, if_false]
    · have h2 := of_decide_eq_true h2
      simp only [decide_eq_false (show ¬ Dy.topD ⟨s, m, e⟩ ≤ 64 by omega), Bool.and_false, Bool.false_and, Bool.false_eq_true, if_false]
    · have h := of_decide_eq_false h
      have h1 := of_decide_eq_false h1
      have h2 := of_decide_eq_false h2
      have hm0 : m ≠ [] := fun e => h (by rw [e]; rfl)
      have hv := Dy.val_ne hm hm0
      obtain ⟨e, rfl⟩ := Int.eq_ofNat_of_zero_le (show 0 ≤ e by omega)
      have htop : Dy.topD ⟨s, m, (e : Int)⟩ = (e : Int) + Dy.bl (Dy.val m) := by unfold Dy.topD; simp only [if_neg hm0]
      have hN : Dy.val m * 2 ^ e < 18446744073709551616 := Dy.bl_le.1 (by rw [Dy.bl_mul_two_pow hv]; omega : Dy.bl _ ≤ 64)
      have hN0 : 0 < Dy.val m * 2 ^ e := Nat.mul_pos (by omega) (Nat.two_pow_pos e)
      rw [Int.toNat_natCast]
      simp only [decide_eq_true (show (0 : Int) ≤ (e : Int) by omega), decide_eq_true (show Dy.topD ⟨s, m, (e : Int)⟩ ≤ 64 by omega), Bool.true_and]
      rw [Dy.at_mk, show ((e : Int) - 0).toNat = e by omega]
      refine ⟨⟨by omega, by omega, by omega⟩, ?_⟩
      clear htop h2 h1 hb hx
      generalize Dy.val m * 2 ^ e = N at *
      have hlen : (Dy.dg N).length ≤ 2 := Dy.length_dg_le.2 (by omega)
      have hpos : 0 < (Dy.dg N).length := Dy.dg_ne_nil (by omega)
      have g0 := Dy.getD_val (Dy.digs_dg N) 0
      have g1 := Dy.getD_val (Dy.digs_dg N) 1
      rw [Dy.val_dg] at g0 g1
      have u0 : IntKind.u64.wrap (((Dy.dg N).getD 0 0 : Nat) : Int) = ((N % 4294967296 : Nat) : Int) := by
        rw [g0, wrap_u64]; simp only [Nat.mul_zero, Nat.pow_zero, Nat.div_one]; omega
      refine ⟨⟨by omega, by omega⟩, cond_i (fun h3 => ?_) (fun h3 => ?_)⟩
      · have h3 := of_decide_eq_true h3
        have u1 : IntKind.u64.wrap (IntKind.u64.wrap (((Dy.dg N).getD 1 0 : Nat) : Int) * 2 ^ 32) = ((N / 4294967296 * 4294967296 : Nat) : Int) := by
          rw [g1, wrap_u64, wrap_u64]; omega
        have u2 : IntKind.u64.wrap (((N % 4294967296 : Nat) : Int) + ((N / 4294967296 * 4294967296 : Nat) : Int)) = (N : Int) := by
          rw [wrap_u64]; omega
        rw [u0, u1, u2]
        refine ⟨⟨by omega, by omega⟩, ?_⟩
        exact int64_end N s _ _ _ rfl (fun h => neg64' h) (fun h => wrap_i64 (by omega) (by omega)) _ rfl
      · have h3 := of_decide_eq_false h3
        have hlt : N < 4294967296 := by
          have := (Dy.length_dg_le (n := N) (k := 1)).1 (by omega)
          omega
        have u2 : ((N % 4294967296 : Nat) : Int) = (N : Int) := by omega
        rw [u0, u2]
        exact int64_end N s _ _ _ rfl (fun h => neg64' h) (fun h => wrap_i64 (by omega) (by omega)) _ rfl
  · cases h
theorem ok_law2_known (args : List AV) (s : Spec) (h : lKnown args = some s) (hp : andO s.pre True) : Contract Tryd.prog Inv 12 args s.res := by
  unfold lKnown at h
  split at h
  · cases h
    refine contract0 false ok_tab16 Tryd.func12 (by kernel_rfl) (by kernel_rfl) fun hok => ?_
    have e1 : Dy.addD ⟨false, [3], -2⟩ ⟨false, [1], -2⟩ = ⟨false, [1], 0⟩ := by kernel_rfl
    have e2 : (Dy.boundIf (Dy.mayD ⟨false, [3], -2⟩ && Dy.mayD ⟨false, [1], -2⟩) ⟨false, [1], 0⟩).2 = 0 := by kernel_rfl
    rw [vc_law2_known, e1, e2]
    rintro _ rfl _ rfl _ rfl _ rfl
    exact cond_t rfl (by rw [show Dy.sameD ⟨false, [1], 0⟩ ⟨false, [1], 0⟩ = true from by kernel_rfl])
  · cases h
theorem ok_tab17 : PhiOk Tryd.prog Inv (look tab17) := look_cons (look_cons (look_cons ok_tab16 ok_law2_known) ok_ref2_Int64) ok_ref2_Int
end Go.AI
