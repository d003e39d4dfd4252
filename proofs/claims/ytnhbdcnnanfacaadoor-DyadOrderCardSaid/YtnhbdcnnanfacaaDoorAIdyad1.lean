/- The layer dyad's functions answer as said: forms, signs, order. -/
import Derived.Test.YtnhbdcnnanfacaaDoorAIdyad0
import Derived.Test.YtnhbdcnnanfacaaDoorAVdyad1
namespace Go.AI
open Go Go.RowKit Go.Proofs
set_option linter.unusedVariables false
set_option maxRecDepth 100000
theorem oks1_agg {cs r : List AV} (h : AV.oks (.agg cs :: r)) : AV.oks cs ∧ AV.oks r := by simp only [AV.oks, AV.ok] at h ⊢; exact h
theorem oks1_bool {b : Bool} {r : List AV} (h : AV.oks (.bool b :: r)) : AV.oks r := by simp only [AV.oks, AV.ok] at h ⊢; exact h.2
theorem oks_d {s : Bool} {p m : List Nat} {e : Int} {r : List AV} (h : AV.oks (.agg [.bool s, .dig p m, .num .i64 e] :: r)) : Dy.okl m ∧ (-9223372036854775808 ≤ e ∧ e < 9223372036854775808) ∧ AV.oks r := by
  obtain ⟨h1, h2⟩ := oks1_agg h
  obtain ⟨h3, h4⟩ := oks1_dig (oks1_bool h1)
  exact ⟨h3, range_i64 (oks1_num h4).1, h2⟩
/-- the lowest bit -/
theorem low_bit {l : List Nat} (h : Dy.digs l) : IntKind.u32.wrap ((BitVec.ofInt 32 ((l.getD 0 0 : Nat) : Int) &&& BitVec.ofInt 32 1).toNat : Int) = ((Dy.val l % 2 : Nat) : Int) := by
  have := Dy.digs_getD h 0
  rw [w32_and (by omega) (by omega) (by omega) (by omega)]
  rw [Int.toNat_natCast, show (1 : Int).toNat = 1 from rfl, Nat.and_one_is_mod, ← Dy.val_mod h]
  have : Dy.val l % 4294967296 % 2 = Dy.val l % 2 := by omega
  rw [this]
theorem ok_dyad_inside (args : List AV) (s : Spec) (h : dInside args = some s) (hp : andO s.pre True) : Contract Tryd.prog Inv 59 args s.res := by
  unfold dInside at h
  split at h
  · cases h
    rename_i e
    refine contract0 false ok_tab8 Tryd.func59 (by kernel_rfl) (by kernel_rfl) fun hok => ?_
    rw [vc_dyad_inside]
    unfold Dy.inside
    refine cond_i (fun h => ?_) (fun h => ?_)
    · have h := of_decide_eq_true h
      simp only [h, true_and]
    · have h := of_decide_eq_false h
      simp only [h, false_and, decide_false]
  · cases h
theorem ok_tab9 : PhiOk Tryd.prog Inv (look tab9) := look_cons ok_tab8 ok_dyad_inside
theorem ok_dyad_May (args : List AV) (s : Spec) (h : dMay args = some s) (hp : andO s.pre True) : Contract Tryd.prog Inv 14 args s.res := by
  unfold dMay at h
  split at h
  · cases h
    rename_i s m e
    refine contract0 false ok_tab9 Tryd.func14 (by kernel_rfl) (by kernel_rfl) fun hok => ?_
    obtain ⟨hm, he, -⟩ := oks_d hok
    rw [vc_dyad_May, low_bit hm.2]
    unfold Dy.mayD
    refine cond_i (fun h => ?_) (fun h => cond_i (fun h1 => cond_i (fun h2 => ?_) (fun h2 => ?_)) (fun h1 => ⟨?_, cond_i (fun h2 => ?_) (fun h2 => ?_)⟩))
    · simp only [Bool.not_eq_true'] at h
      simp only [h, Bool.false_and]
    · simp only [Bool.not_eq_false'] at h
      have h1 := List.length_eq_zero_iff.1 (Int.ofNat_eq_zero.1 (of_decide_eq_true h1))
      subst h1
      simp only [h, if_true, h2, Bool.true_and]
    · simp only [Bool.not_eq_false'] at h
      have h1 := List.length_eq_zero_iff.1 (Int.ofNat_eq_zero.1 (of_decide_eq_true h1))
      subst h1
      simp only [h, if_true, h2, Bool.true_and, Bool.false_and]
    · have h1 := of_decide_eq_false h1
      omega
    · simp only [Bool.not_eq_false'] at h
      have h1 := of_decide_eq_false h1
      have h2 := of_decide_eq_true h2
      have h1' : m ≠ [] := fun e => h1 (by rw [e]; rfl)
      simp only [h, if_neg h1', Bool.true_and]
      rw [decide_eq_true (by omega), Bool.true_and]
    · simp only [Bool.not_eq_false'] at h
      have h1 := of_decide_eq_false h1
      have h2 := of_decide_eq_false h2
      have h1' : m ≠ [] := fun e => h1 (by rw [e]; rfl)
      simp only [h, if_neg h1', Bool.true_and]
      rw [decide_eq_false (by omega), Bool.false_and]
  · cases h
theorem ok_dyad_own (args : List AV) (s : Spec) (h : dOwn args = some s) (hp : andO s.pre True) : Contract Tryd.prog Inv 72 args s.res := by
  unfold dOwn at h
  split at h
  · cases h
    rename_i s m e
    have hp := hp.1
    refine contract0 false ok_tab9 Tryd.func72 (by kernel_rfl) (by kernel_rfl) fun hok => ?_
    rw [vc_dyad_own]
    exact ⟨by omega, rfl⟩
  · cases h
theorem ok_tab10 : PhiOk Tryd.prog Inv (look tab10) := look_cons (look_cons ok_tab9 ok_dyad_May) ok_dyad_own
theorem ok_dyad_both (args : List AV) (s : Spec) (h : dBoth args = some s) (hp : andO s.pre True) : Contract Tryd.prog Inv 68 args s.res := by
  unfold dBoth at h
  split at h
  · cases h
    rename_i s m e s' m' e'
    refine contract_at false _ (lam [(2, .unroll 3)]) ok_tab10 Tryd.func68 (by kernel_rfl) rfl (loops1u (k := 3) (by kernel_rfl) (by kernel_rfl)) fun hok => ?_
    rw [vc_dyad_both]
    refine ⟨by simp, cond_i (fun h => ?_) (fun h => ⟨by rw [wrap_i64 (by omega) (by omega)]; simp, cond_i (fun h' => ?_) (fun h' => ?_)⟩)⟩
    · simp at h; rw [h]; rfl
    · simp at h h'; rw [h, h']; rfl
    · simp at h h'; rw [h, h']; rfl
  · cases h
theorem ok_dyad_Make (args : List AV) (s : Spec) (h : dMake args = some s) (hp : andO s.pre True) : Contract Tryd.prog Inv 16 args s.res := by
  unfold dMake at h
  split at h
  · cases h
    rename_i s m e
    refine contract0 false ok_tab10 Tryd.func16 (by kernel_rfl) (by kernel_rfl) fun hok => ?_
    obtain ⟨hm, h5⟩ := oks1_dig (oks1_bool hok)
    have he := range_i64 (oks1_num h5).1
    rw [vc_dyad_Make]
    unfold Dy.makeD
    refine cond_i (fun h => ?_) (fun h => ?_)
    · simp only [Bool.not_eq_true'] at h
      rw [h]; rfl
    · simp only [Bool.not_eq_false'] at h
      simp only [h, if_true]
      refine cond_i (fun h1 => ?_) (fun h1 => ?_)
      · have h1 := List.length_eq_zero_iff.1 (Int.ofNat_eq_zero.1 (of_decide_eq_true h1))
        subst h1
        rfl
      · have h1 := of_decide_eq_false h1
        have h1' : m ≠ [] := fun e => h1 (by rw [e]; rfl)
        have hv := Dy.val_ne h h1'
        have hb := Dy.may_bl h
        have ht := Dy.tz_lt_bl hv
        have hlow : Dy.lowN m = Dy.tz (Dy.val m) := by unfold Dy.lowN; rw [if_pos h]
        have hlen : (Dy.dg (Dy.val m / 2 ^ Dy.tz (Dy.val m))).length ≤ 4096 := by
          rw [Dy.len_bl, Dy.bl_div_two_pow]; omega
        rw [hlow, wrap_i64 (by omega) (by omega), wrap_i64 (by omega) (by omega), wrap_i64 (by omega) (by omega), Dy.form_pos hv]
        unfold Dy.boundD
        simp only [if_pos hlen]
        have hz : ∀ c : Bool, Dy.inside (e + (Dy.tz (Dy.val m) : Int)) = c → (if Dy.inside (e + (Dy.tz (Dy.val m) : Int)) = true then ((⟨s, Dy.dg (Dy.val m / 2 ^ Dy.tz (Dy.val m)), e + (Dy.tz (Dy.val m) : Int)⟩ : Dy.Dyd), (0 : Int)) else (Dy.zeroD, 20)) = if c = true then (⟨s, Dy.dg (Dy.val m / 2 ^ Dy.tz (Dy.val m)), e + (Dy.tz (Dy.val m) : Int)⟩, 0) else (Dy.zeroD, 20) := fun c hc => by rw [hc]
        refine cond_i (fun h2 => ?_) (fun h2 => cond_i (fun h3 => ?_) (fun h3 => ?_))
        · have h2 := of_decide_eq_true h2
          rw [hz false (by rw [← Bool.not_eq_true, Dy.inside_iff]; omega)]
          rfl
        · have h3 := of_decide_eq_true h3
          rw [hz false (by rw [← Bool.not_eq_true, Dy.inside_iff]; omega)]
          rfl
        · have h2 := of_decide_eq_false h2
          have h3 := of_decide_eq_false h3
          rw [hz true (by rw [Dy.inside_iff]; omega)]
          rw [show (0 : Int) - (Dy.tz (Dy.val m) : Int) = -(Dy.tz (Dy.val m) : Int) by omega, Dy.shiftN_neg h]
          rintro _ rfl _ - _ -
          rw [wrap_i64 (by omega) (by omega)]
          rfl
  · cases h
theorem ok_dyad_signed (args : List AV) (s : Spec) (h : dSigned args = some s) (hp : andO s.pre True) : Contract Tryd.prog Inv 70 args s.res := by
  unfold dSigned at h
  split at h
  · cases h
    rename_i s m e n
    have hp := hp.1
    refine contract0 false ok_tab10 Tryd.func70 (by kernel_rfl) (by kernel_rfl) fun hok => ?_
    rw [vc_dyad_signed]
    refine ⟨hp, ?_⟩
    intro _ _ l2 hl n3 hn
    subst hl hn
    refine cond_i (fun h => ?_) (fun h => ?_)
    · subst h
      have : decide ((l2.length : Int) > 0) = decide (l2 ≠ []) := by
        rw [decide_eq_decide]
        constructor
        · intro h e; rw [e] at h; simp at h
        · intro h; have := List.length_pos_iff.2 h; omega
      rw [this, Bool.true_and]
    · subst h
      rfl
  · cases h
theorem ok_dyad_Sign (args : List AV) (s : Spec) (h : dSign args = some s) (hp : andO s.pre True) : Contract Tryd.prog Inv 40 args s.res := by
  unfold dSign at h
  split at h
  · cases h
    rename_i s m e
    refine contract0 false ok_tab10 Tryd.func40 (by kernel_rfl) (by kernel_rfl) fun hok => ?_
    rw [vc_dyad_Sign]
    unfold Dy.signD
    refine cond_i (fun h => ?_) (fun h => cond_i (fun h1 => ?_) (fun h1 => ?_))
    · simp only [Bool.not_eq_true'] at h
      simp only [h, Bool.false_eq_true, if_false]
    · simp only [Bool.not_eq_false'] at h
      have h1 := List.length_eq_zero_iff.1 (Int.ofNat_eq_zero.1 (of_decide_eq_true h1))
      subst h1
      simp only [h, if_true]
    · simp only [Bool.not_eq_false'] at h
      have h1 := of_decide_eq_false h1
      have h1' : m ≠ [] := fun e => h1 (by rw [e]; rfl)
      simp only [h, if_neg h1', if_true]
      cases s <;> rfl
  · cases h
theorem ok_dyad_Top (args : List AV) (s : Spec) (h : dTop args = some s) (hp : andO s.pre True) : Contract Tryd.prog Inv 43 args s.res := by
  unfold dTop at h
  split at h
  · cases h
    rename_i s m e
    refine contract0 false ok_tab10 Tryd.func43 (by kernel_rfl) (by kernel_rfl) fun hok => ?_
    rw [vc_dyad_Top]
    unfold Dy.topD
    refine cond_i (fun h => ?_) (fun h => cond_i (fun h1 => ?_) (fun h1 => ?_))
    · simp only [Bool.not_eq_true'] at h
      simp only [h, Bool.false_eq_true, if_false]
    · simp only [Bool.not_eq_false'] at h
      have h1 := List.length_eq_zero_iff.1 (Int.ofNat_eq_zero.1 (of_decide_eq_true h1))
      subst h1
      simp only [h, if_true]
    · simp only [Bool.not_eq_false'] at h
      have h1 := of_decide_eq_false h1
      have h1' : m ≠ [] := fun e => h1 (by rw [e]; rfl)
      have := Dy.mayD_exp h
      have hb := Dy.may_bl (Dy.mayD_may h)
      simp only [h, if_neg h1', if_true, Dy.lenN, if_pos (Dy.mayD_may h)]
      rw [wrap_i64 (by omega) (by omega)]
  · cases h
theorem ok_tab11 : PhiOk Tryd.prog Inv (look tab11) := look_cons (look_cons (look_cons (look_cons (look_cons ok_tab10 ok_dyad_Top) ok_dyad_Sign) ok_dyad_signed) ok_dyad_Make) ok_dyad_both
end Go.AI
