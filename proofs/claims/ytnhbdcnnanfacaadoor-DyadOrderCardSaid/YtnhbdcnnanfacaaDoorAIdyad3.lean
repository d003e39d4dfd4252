/- The layer dyad's functions answer as said: sums, products, order. -/
import Derived.Test.YtnhbdcnnanfacaaDoorAIdyad2
namespace Go.AI
open Go Go.RowKit Go.Proofs
set_option linter.unusedVariables false
set_option maxRecDepth 100000
theorem ok_dyad_halved (args : List AV) (s : Spec) (h : dHalved args = some s) (hp : andO s.pre True) : Contract Tryd.prog Inv 109 args s.res := by
  unfold dHalved at h
  split at h
  · cases h
    rename_i p x y e
    obtain ⟨⟨hx, hy, he, hl⟩, -⟩ := hp
    refine contract0 false ok_tab11 Tryd.func109 (by kernel_rfl) (by kernel_rfl) fun hok => ?_
    obtain ⟨ox, h5⟩ := oks1_dig (oks1_bool hok)
    obtain ⟨oy, -⟩ := oks1_dig h5
    have he := Dy.inside_iff.1 he
    have b1 := Dy.may_bl hx
    have b2 := Dy.may_bl hy
    have hbig : 131072 < Dy.bl (Dy.val x + Dy.val y) := by
      have := mt (Dy.len_bl (n := Dy.val x + Dy.val y)).2 (by omega)
      omega
    have b3 := Dy.halved_big hx hy
    have nx : x ≠ [] := fun e => by subst e; simp only [Dy.val, Nat.zero_add] at hbig; omega
    have ny : y ≠ [] := fun e => by subst e; simp only [Dy.val, Nat.add_zero] at hbig; omega
    have lx := List.length_pos_iff.2 nx
    have ly := List.length_pos_iff.2 ny
    rw [vc_dyad_halved, low_bit ox.2, low_bit oy.2, wrap_i64 (by omega) (by omega)]
    refine ⟨by omega, by omega, cond_i (fun h => ?_) (fun h => ?_)⟩
    · simp only [Bool.not_eq_true', decide_eq_false_iff_not] at h
      rw [Dy.boundD_long (by omega) hbig]
      rfl
    · simp only [Bool.not_eq_false', decide_eq_true_eq] at h
      rw [show (-1 : Int) = -((1 : Nat) : Int) from rfl, Dy.shiftN_neg hx, Dy.shiftN_neg hy, Nat.pow_one]
      intro l1 e1 _ _ _ _ l4 e4 _ _ _ _ l7 e7 _ _
      have hhx : Dy.bl (Dy.val x / 2) ≤ 131072 := Dy.bl_dec (Nat.div_le_self _ _) b1
      have hhy : Dy.bl (Dy.val y / 2) ≤ 131072 := Dy.bl_dec (Nat.div_le_self _ _) b2
      have hs : Dy.bl (Dy.val x / 2 + Dy.val y / 2) ≤ 131072 := Dy.bl_dec (by omega) (Dy.half_bl b3)
      have m1 : Dy.may l1 = true := by rw [e1]; exact Dy.may_dgn.2 (Dy.len_bl.2 hhx)
      have m4 : Dy.may l4 = true := by rw [e4]; exact Dy.may_dgn.2 (Dy.len_bl.2 hhy)
      have e7' : l7 = Dy.dg (Dy.val x / 2 + Dy.val y / 2) := by
        rw [e7, Dy.addR_dg m1 m4, e1, e4, Dy.val_dg, Dy.val_dg]
        simp only [if_pos hs]
      have m7 : Dy.may l7 = true := by rw [e7']; exact Dy.may_dgn.2 (Dy.len_bl.2 hs)
      refine ⟨by omega, cond_i (fun h1 => ?_) (fun h1 => ?_)⟩
      · have h1 := of_decide_eq_true h1
        have mo : Dy.may (Dy.dg 1) = true := Dy.may_dgn.2 (Dy.len_bl.2 (by decide))
        have hs2 : Dy.bl (Dy.val x / 2 + Dy.val y / 2 + 1) ≤ 131072 := Dy.bl_dec (by omega) (Dy.half_bl b3)
        intro l9 e9 _ _
        have e9' : l9 = Dy.dg (Dy.val x / 2 + Dy.val y / 2 + 1) := by
          rw [e9, Dy.addR_dg m7 mo, e7', Dy.val_dg, Dy.val_dg]
          simp only [if_pos hs2]
        have : Dy.val x + Dy.val y = 2 * (Dy.val x / 2 + Dy.val y / 2 + 1) := by omega
        rw [e9', Dy.makeD_dg hs2, this, Dy.form_two]
        rintro _ rfl _ rfl _ rfl _ rfl
        rfl
      · have h1 := of_decide_eq_false h1
        have : Dy.val x + Dy.val y = 2 * (Dy.val x / 2 + Dy.val y / 2) := by omega
        rw [e7', Dy.makeD_dg hs, this, Dy.form_two]
        rintro _ rfl _ rfl _ rfl _ rfl
        rfl
  · cases h
theorem ok_dyad_edge (args : List AV) (s : Spec) (h : dEdge args = some s) (hp : andO s.pre True) : Contract Tryd.prog Inv 96 args s.res := by
  unfold dEdge at h
  split at h
  · cases h
    rename_i s m e s' m' e' g
    obtain ⟨⟨hd, hd', hm, hm', hg, hg1, hgb⟩, -⟩ := hp
    refine contract0 false ok_tab11 Tryd.func96 (by kernel_rfl) (by kernel_rfl) fun hok => ?_
    have may1 := Dy.mayD_may hd
    have may2 := Dy.mayD_may hd'
    have b1 := Dy.may_bl may1
    have b2 := Dy.may_bl may2
    have odd := Dy.mayD_odd hd' hm'
    have v1 := Dy.val_ne may1 hm
    obtain ⟨g, rfl⟩ := Int.eq_ofNat_of_zero_le (show 0 ≤ g by omega)
    have hX : Dy.bl (Dy.val m * 2 ^ (g - 1)) = 131072 := by rw [Dy.bl_mul_two_pow v1]; omega
    have hA : Dy.val m * 2 ^ g = 2 * (Dy.val m * 2 ^ (g - 1)) := by
      rw [← Nat.mul_assoc, Nat.mul_comm 2, Nat.mul_assoc, ← Nat.pow_succ']
      congr 2; omega
    have hH : Dy.bl (Dy.val m' / 2) ≤ 131071 := by
      have := Dy.bl_div_two_pow (Dy.val m') 1
      rw [Nat.pow_one] at this
      omega
    rw [Dy.addD_gap (by omega), show (e - e').toNat = g by omega, vc_dyad_edge, wrap_i64 (by omega) (by omega), show (g : Int) - 1 = ((g - 1 : Nat) : Int) by omega,
      Dy.shiftN_up may1 (g - 1) (by omega), show (-1 : Int) = -((1 : Nat) : Int) from rfl, Dy.shiftN_neg may2, Nat.pow_one, hA]
    have hM : Dy.val m' = 2 * (Dy.val m' / 2) + 1 := by omega
    generalize Dy.val m * 2 ^ (g - 1) = X at *
    generalize Dy.val m' / 2 = H at *
    refine cond_i (fun h => ?_) (fun h => ?_)
    · have h := of_decide_eq_true h
      subst h
      rw [Dy.sgn_add_same, Dy.formZ_sgn]
      have hb : 131072 < Dy.bl (2 * X + Dy.val m') := by
        have : Dy.bl (2 * X) = 131073 := by
          have := Dy.bl_mul_two_pow (n := X) (fun e => by subst e; simp [Dy.bl_zero] at hX) 1
          rw [Nat.pow_one, Nat.mul_comm] at this
          omega
        have := Dy.bl_mono (show 2 * X ≤ 2 * X + Dy.val m' by omega)
        omega
      rw [Dy.boundD_long (by omega) hb]
      rfl
    · have h := of_decide_eq_false h
      obtain ⟨k1, k2, k3, k4, k5⟩ := Dy.edge_aux (K := 131071) hX hH
      clear k3
      have hHb : Dy.bl H ≤ 131072 := by omega
      have mX : Dy.may (Dy.dg X) = true := Dy.may_dgn.2 (Dy.len_bl.2 (by omega))
      have mH : Dy.may (Dy.dg H) = true := Dy.may_dgn.2 (Dy.len_bl.2 hHb)
      have mo : Dy.may (Dy.dg 1) = true := Dy.may_dgn.2 (Dy.len_bl.2 (by decide))
      have hD : Dy.sgn s (2 * X) + Dy.sgn s' (Dy.val m') = Dy.sgn s (2 * (X - H) - 1) := by
        rw [Dy.sgn_sub h (by omega)]
        congr 1
        omega
      rw [hD, Dy.formZ_sgn]
      intro l1 e1 _ _ _ _ l4 e4 _ _ _ _ l7 e7 n8 e8
      rw [e1, e4, Dy.subR_dg mX mH, Dy.val_dg, Dy.val_dg, if_neg (by omega)] at e7 e8
      simp only at e7 e8
      subst e7 e8
      refine cond_f (by simp) ?_
      have bS : Dy.bl (X - H) ≤ 131072 := Dy.bl_dec (b := X) (by omega) (by omega)
      generalize X - H = S at *
      have mS : Dy.may (Dy.dg S) = true := Dy.may_dgn.2 (Dy.len_bl.2 bS)
      rw [Dy.addR_dg mS mS, Dy.val_dg, show S + S = 2 * S by omega]
      intro l9 e9 n10 e10
      by_cases c : Dy.bl (2 * S) ≤ 131072
      · simp only [if_pos c] at e9 e10
        subst e9 e10
        refine cond_t (by simp) ?_
        rw [Dy.subR_dg (Dy.may_dgn.2 (Dy.len_bl.2 c)) mo, Dy.val_dg, Dy.val_dg, if_neg (by omega)]
        rintro _ rfl _ -
        rw [Dy.makeD_dg (Dy.bl_dec (by omega) c)]
        rintro _ rfl _ rfl _ rfl _ rfl
        rfl
      · simp only [if_neg c] at e9 e10
        subst e9 e10
        obtain ⟨k6, k7⟩ := k4 (by omega)
        have l1 : Dy.lenN (Dy.dg S) = Dy.bl S := by unfold Dy.lenN; rw [if_pos mS, Dy.val_dg]
        have l2 : Dy.lowN (Dy.dg S) = Dy.tz S := by unfold Dy.lowN; rw [if_pos mS, Dy.val_dg]
        have hlt := Dy.tz_lt_bl (n := S) (by omega)
        rw [l1, l2, wrap_i64 (by omega) (by omega)]
        refine cond_f (by simp) (cond_i (fun h1 => ?_) (fun h1 => ?_))
        · have h1 := of_decide_eq_true h1
          obtain ⟨-, k8⟩ := k5 (k6 (by omega))
          rw [Dy.subR_dg mS mo, Dy.val_dg, Dy.val_dg, if_neg (by omega)]
          rintro _ rfl _ -
          have mS1 : Dy.may (Dy.dg (S - 1)) = true := Dy.may_dgn.2 (Dy.len_bl.2 (Dy.bl_dec (by omega) bS))
          rw [Dy.addR_dg mS1 mS, Dy.val_dg, Dy.val_dg, show S - 1 + S = 2 * S - 1 by omega]
          simp only [if_pos (show Dy.bl (2 * S - 1) ≤ 131072 by omega)]
          rintro _ rfl _ -
          rw [Dy.makeD_dg (by omega)]
          rintro _ rfl _ rfl _ rfl _ rfl
          rfl
        · have h1 := of_decide_eq_false h1
          have hne : ∀ P : Nat, (S = P → Dy.bl S = Dy.tz S + 1 ∧ Dy.bl (2 * S - 1) ≤ 131071 + 1) → (S ≠ P → 131071 + 1 < Dy.bl (2 * S - 1)) → 131072 < Dy.bl (2 * S - 1) := by
            intro P q1 q2
            by_cases q : S = P
            · have := (q1 q).1
              omega
            · exact q2 q
          rw [Dy.boundD_long (by omega) (hne _ k5 k7)]
          rfl
  · cases h
theorem ok_dyad_Mul (args : List AV) (s : Spec) (h : dMul args = some s) (hp : andO s.pre True) : Contract Tryd.prog Inv 31 args s.res := by
  unfold dMul at h
  split at h
  · cases h
    rename_i s m e s' m' e'
    refine contract0 false ok_tab11 Tryd.func31 (by kernel_rfl) (by kernel_rfl) fun hok => ?_
    rw [vc_dyad_Mul]
    unfold Dy.boundIf
    refine cond_i (fun h => ?_) (fun h => ?_)
    · simp only [Bool.not_eq_true'] at h
      rw [h]; rfl
    · simp only [Bool.not_eq_false'] at h
      obtain ⟨hd, hd'⟩ := Bool.and_eq_true_iff.1 h
      have may1 := Dy.mayD_may hd
      have may2 := Dy.mayD_may hd'
      have x1 := Dy.mayD_exp hd
      have x2 := Dy.mayD_exp hd'
      rw [h, if_pos rfl, Dy.mulR_dg may1 may2, wrap_i64 (by omega) (by omega)]
      intro l1 e1 n2 e2
      unfold Dy.mulD
      simp only
      by_cases c : Dy.bl (Dy.val m * Dy.val m') ≤ 131072
      · simp only [if_pos c] at e1 e2
        subst e1 e2
        refine cond_f (by simp) ?_
        rw [Dy.makeD_dg c]
        rintro _ rfl _ rfl _ rfl _ rfl
        rfl
      · simp only [if_neg c] at e1 e2
        subst e1 e2
        refine cond_t (by simp) ?_
        have n1 : m ≠ [] := fun e => c (by rw [e]; simp only [Dy.val, Nat.zero_mul]; decide)
        have n2 : m' ≠ [] := fun e => c (by rw [e]; simp only [Dy.val, Nat.mul_zero]; decide)
        rw [Dy.boundD_long (Dy.odd_mul (Dy.mayD_odd hd n1) (Dy.mayD_odd hd' n2)) (by omega)]
        rfl
  · cases h
end Go.AI
