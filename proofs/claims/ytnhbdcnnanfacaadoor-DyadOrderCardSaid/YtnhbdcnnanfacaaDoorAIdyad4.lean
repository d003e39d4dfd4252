/- The layer dyad's functions answer as said: order, sums. -/
import Derived.Test.YtnhbdcnnanfacaaDoorAIdyad3
namespace Go.Dy
theorem sgn_zero (s : Bool) : sgn s 0 = 0 := by cases s <;> rfl
theorem mul_sgn (s : Bool) (a b : Nat) : sgn s a = (if s then -1 else 1) * (a : Int) := by
  unfold sgn; cases s <;> simp
theorem cmp_sgn (s : Bool) (a b : Nat) : cmpZ (sgn s a) (sgn s b) = (if s then -1 else 1) * cmpZ a b := by
  unfold sgn
  cases s
  · simp
  · simp only [if_true]
    rw [cmpZ_neg]
    omega
theorem cmpZ_vals (a b : Int) : cmpZ a b = -1 ∨ cmpZ a b = 0 ∨ cmpZ a b = 1 := by
  unfold cmpZ
  split
  · exact .inl rfl
  · split
    · exact .inr (.inr rfl)
    · exact .inr (.inl rfl)
theorem cmpZ_lt {a b : Int} (h : a < b) : cmpZ a b = -1 := by unfold cmpZ; rw [if_pos h]
theorem cmpZ_gt {a b : Int} (h : b < a) : cmpZ a b = 1 := by unfold cmpZ; rw [if_neg (by omega), if_pos h]
/-- what the signs say of the order -/
theorem cmpD_sign {s s' : Bool} {m m' : List Nat} {e e' : Int} (h : mayD ⟨s, m, e⟩ = true) (h' : mayD ⟨s', m', e'⟩ = true) :
    (signD ⟨s, m, e⟩ < signD ⟨s', m', e'⟩ → cmpD ⟨s, m, e⟩ ⟨s', m', e'⟩ = -1) ∧ (signD ⟨s', m', e'⟩ < signD ⟨s, m, e⟩ → cmpD ⟨s, m, e⟩ ⟨s', m', e'⟩ = 1) ∧
    (signD ⟨s, m, e⟩ = signD ⟨s', m', e'⟩ → (m = [] ↔ m' = []) ∧ cmpD ⟨s, m, e⟩ ⟨s', m', e'⟩ = signD ⟨s, m, e⟩ * cmpZ (val m * 2 ^ (e - min e e').toNat : Nat) (val m' * 2 ^ (e' - min e e').toNat : Nat)) := by
  unfold cmpD
  rw [at_mk, at_mk]
  simp only [unit]
  unfold signD
  simp only
  have p1 := Nat.two_pow_pos (e - min e e').toNat
  have p2 := Nat.two_pow_pos (e' - min e e').toNat
  by_cases c : m = []
  · subst c
    obtain ⟨rfl, rfl⟩ := mayD_nil h
    by_cases c' : m' = []
    · subst c'
      obtain ⟨rfl, rfl⟩ := mayD_nil h'
      simp [val, sgn, cmpZ]
    · have v := val_ne (mayD_may h') c'
      simp only [if_neg c', if_true]
      have hp : 0 < val m' * 2 ^ (e' - min 0 e').toNat := Nat.mul_pos (by omega) p2
      generalize val m' * 2 ^ (e' - min 0 e').toNat = B at *
      simp only [val, Nat.zero_mul, sgn_zero]
      unfold sgn
      cases s'
      · simp only [Bool.false_eq_true, if_false]
        refine ⟨fun _ => cmpZ_lt (by omega), fun h => by omega, fun h => by omega⟩
      · simp only [if_true]
        refine ⟨fun h => by omega, fun h => cmpZ_gt (by omega), fun h => by omega⟩
  · have v := val_ne (mayD_may h) c
    have hp : 0 < val m * 2 ^ (e - min e e').toNat := Nat.mul_pos (by omega) p1
    simp only [if_neg c]
    by_cases c' : m' = []
    · subst c'
      obtain ⟨rfl, rfl⟩ := mayD_nil h'
      generalize val m * 2 ^ (e - min e 0).toNat = A at *
      simp only [val, Nat.zero_mul, sgn_zero, if_true]
      unfold sgn
      cases s
      · simp only [Bool.false_eq_true, if_false]
        refine ⟨fun h => by omega, fun _ => cmpZ_gt (by omega), fun h => by omega⟩
      · simp only [if_true]
        refine ⟨fun h => cmpZ_lt (by omega), fun h => by omega, fun h => by omega⟩
    · have v' := val_ne (mayD_may h') c'
      have hp' : 0 < val m' * 2 ^ (e' - min e e').toNat := Nat.mul_pos (by omega) p2
      simp only [if_neg c']
      generalize val m * 2 ^ (e - min e e').toNat = A at *
      generalize val m' * 2 ^ (e' - min e e').toNat = B at *
      by_cases hs : s = s'
      · subst hs
        refine ⟨fun h => by omega, fun h => by omega, fun _ => ⟨by simp [c, c'], cmp_sgn s A B⟩⟩
      · unfold sgn
        cases s <;> cases s' <;> simp at hs ⊢
        · exact cmpZ_gt (by omega)
        · exact cmpZ_lt (by omega)
end Go.Dy
namespace Go.AI
open Go Go.RowKit Go.Proofs
set_option linter.unusedVariables false
set_option maxRecDepth 100000
theorem ok_tab12 : PhiOk Tryd.prog Inv (look tab12) :=
  look_cons (look_cons (look_cons (look_cons (look_cons (look_cons (look_cons (look_cons ok_tab11 ok_dyad_Mul) ok_dyad_edge) ok_dyad_halved) ok_dyad_sizes) ok_dyad_Abs) ok_dyad_Neg) ok_dyad_Int64) ok_dyad_Int
theorem ok_dyad_Cmp (args : List AV) (s : Spec) (h : dCmp args = some s) (hp : andO s.pre True) : Contract Tryd.prog Inv 39 args s.res := by
  unfold dCmp at h
  split at h
  · cases h
    rename_i s m e s' m' e'
    refine contract0 false ok_tab12 Tryd.func39 (by kernel_rfl) (by kernel_rfl) fun hok => ?_
    rw [vc_dyad_Cmp]
    refine cond_i (fun h => ?_) (fun h => ?_)
    · simp only [Bool.not_eq_true'] at h
      rw [h]; rfl
    · simp only [Bool.not_eq_false'] at h
      obtain ⟨hd, hd'⟩ := Bool.and_eq_true_iff.1 h
      rw [h, if_pos hd, if_pos hd', if_pos rfl, if_pos rfl]
      obtain ⟨k1, k2, k3⟩ := Dy.cmpD_sign hd hd'
      refine cond_i (fun h1 => ?_) (fun h1 => cond_i (fun h2 => ?_) (fun h2 => ?_))
      · rw [k1 (of_decide_eq_true h1)]
      · rw [k2 (of_decide_eq_true h2)]
      · have h1 := of_decide_eq_false h1
        have h2 := of_decide_eq_false h2
        obtain ⟨k4, k5⟩ := k3 (by omega)
        have hw : IntKind.i64.wrap (Dy.cmpD ⟨s, m, e⟩ ⟨s', m', e'⟩) = Dy.cmpD ⟨s, m, e⟩ ⟨s', m', e'⟩ := by
          have : Dy.cmpD ⟨s, m, e⟩ ⟨s', m', e'⟩ = -1 ∨ Dy.cmpD ⟨s, m, e⟩ ⟨s', m', e'⟩ = 0 ∨ Dy.cmpD ⟨s, m, e⟩ ⟨s', m', e'⟩ = 1 := Dy.cmpZ_vals _ _
          exact wrap_i64 (by omega) (by omega)
        rw [← k5, hw]
        exact ⟨⟨hd, hd', k4⟩, rfl⟩
  · cases h
theorem ok_dyad_join (args : List AV) (s : Spec) (h : dJoin args = some s) (hp : andO s.pre True) : Contract Tryd.prog Inv 97 args s.res := by
  unfold dJoin at h
  split at h
  · cases h
    rename_i p x q y e
    obtain ⟨⟨hx, hy, nx, ny, he⟩, -⟩ := hp
    refine contract0 false ok_tab12 Tryd.func97 (by kernel_rfl) (by kernel_rfl) fun hok => ?_
    have b1 := Dy.may_bl hx
    have b2 := Dy.may_bl hy
    rw [vc_dyad_join, Dy.addR_dg hx hy, Dy.subR_dg hx hy, Dy.subR_dg hy hx, Dy.int_mk, Dy.int_mk]
    refine cond_i (fun h => ?_) (fun h => ?_)
    · have h := of_decide_eq_true h
      subst h
      rw [Dy.sgn_add_same, Dy.formZ_sgn]
      intro l1 e1 n2 e2
      by_cases c : Dy.bl (Dy.val x + Dy.val y) ≤ 131072
      · simp only [if_pos c] at e1 e2
        subst e1 e2
        refine cond_f (by simp) ?_
        rw [Dy.makeD_dg c]
        rintro _ rfl _ rfl _ rfl _ rfl
        rfl
      · simp only [if_neg c] at e1 e2
        subst e1 e2
        refine cond_t (by simp) ⟨⟨hx, hy, he, ?_⟩, ?_⟩
        · have := mt (Dy.len_bl (n := Dy.val x + Dy.val y)).1 c
          omega
        · rintro _ rfl _ rfl _ rfl _ rfl
          rfl
    · have h := of_decide_eq_false h
      unfold Dy.cmpR
      rw [hx, hy, Bool.and_self, if_pos rfl]
      intro n11 e11 _ _
      subst e11
      refine cond_i (fun h1 => ?_) (fun h1 => ?_)
      · have h1 := Dy.cmpN_neg.1 (of_decide_eq_true h1)
        rw [Dy.sgn_sub' h (by omega), Dy.formZ_sgn, if_neg (by omega)]
        rintro _ rfl _ -
        rw [Dy.makeD_dg (Dy.bl_dec (by omega) b2)]
        rintro _ rfl _ rfl _ rfl _ rfl
        rfl
      · have h1 := mt Dy.cmpN_neg.2 (of_decide_eq_false h1)
        rw [Dy.sgn_sub h (by omega), Dy.formZ_sgn, if_neg (by omega)]
        rintro _ rfl _ -
        rw [Dy.makeD_dg (Dy.bl_dec (by omega) b1)]
        rintro _ rfl _ rfl _ rfl _ rfl
        rfl
  · cases h
theorem ok_tab13 : PhiOk Tryd.prog Inv (look tab13) := look_cons (look_cons ok_tab12 ok_dyad_join) ok_dyad_Cmp
theorem ok_dyad_add (args : List AV) (s : Spec) (h : dAddL args = some s) (hp : andO s.pre True) : Contract Tryd.prog Inv 69 args s.res := by
  unfold dAddL at h
  split at h
  · cases h
    rename_i s m e s' m' e'
    obtain ⟨⟨hd, hd'⟩, -⟩ := hp
    refine contract0 false ok_tab13 Tryd.func69 (by kernel_rfl) (by kernel_rfl) fun hok => ?_
    have may1 := Dy.mayD_may hd
    have may2 := Dy.mayD_may hd'
    have b1 := Dy.may_bl may1
    have b2 := Dy.may_bl may2
    have x1 := Dy.mayD_exp hd
    have x2 := Dy.mayD_exp hd'
    have n1 := Dy.may_len may1
    have n2 := Dy.may_len may2
    have l1 : Dy.lenN m = Dy.bl (Dy.val m) := by unfold Dy.lenN; rw [if_pos may1]
    have l2 : Dy.lenN m' = Dy.bl (Dy.val m') := by unfold Dy.lenN; rw [if_pos may2]
    rw [vc_dyad_add, l1, l2]
    refine cond_i (fun h => ?_) (fun h => cond_i (fun h1 => ?_) (fun h1 => ?_))
    · have h := List.length_eq_zero_iff.1 (Int.ofNat_eq_zero.1 (of_decide_eq_true h))
      subst h
      rw [Dy.addD_comm, Dy.addD_nil hd' hd, Dy.boundD_self hd']
      refine ⟨by omega, ?_⟩
      rintro _ rfl _ rfl _ rfl
      rfl
    · have h1 := List.length_eq_zero_iff.1 (Int.ofNat_eq_zero.1 (of_decide_eq_true h1))
      subst h1
      rw [Dy.addD_nil hd hd', Dy.boundD_self hd]
      refine ⟨by omega, ?_⟩
      rintro _ rfl _ rfl _ rfl
      rfl
    · have h := of_decide_eq_false h
      have h1 := of_decide_eq_false h1
      have m1 : m ≠ [] := fun e => h (by rw [e]; rfl)
      have m2 : m' ≠ [] := fun e => h1 (by rw [e]; rfl)
      have v1 := Dy.val_ne may1 m1
      have v2 := Dy.val_ne may2 m2
      have i1 : Dy.inside e = true := Dy.inside_iff.2 x1
      have i2 : Dy.inside e' = true := Dy.inside_iff.2 x2
      rw [wrap_i64 (n := e' - e) (by omega) (by omega), wrap_i64 (n := e - e') (by omega) (by omega), wrap_i64 (by omega) (by omega), wrap_i64 (by omega) (by omega)]
      refine cond_i (fun h2 => ?_) (fun h2 => ?_)
      · have h2 := of_decide_eq_true h2
        rw [Dy.addD_comm]
        refine cond_i (fun h3 => ?_) (fun h3 => cond_i (fun h4 => ?_) (fun h4 => ?_))
        · have h3 := of_decide_eq_true h3
          rw [Dy.far_long hd' hd m2 m1 (by omega)]
          rfl
        · have h3 := of_decide_eq_false h3
          have h4 := of_decide_eq_true h4
          refine ⟨⟨hd', hd, m2, m1, rfl, by omega, by omega⟩, ?_⟩
          rintro _ rfl _ rfl _ rfl _ rfl
          rfl
        · have h4 := of_decide_eq_false h4
          obtain ⟨g, hg⟩ : ∃ g : Nat, e' - e = g := ⟨(e' - e).toNat, by omega⟩
          rw [hg] at h4 ⊢
          rw [Dy.shiftN_up may2 g (by omega)]
          rintro _ rfl _ - _ -
          have hb := Dy.bl_mul_two_pow v2 g
          have hp := Nat.two_pow_pos g
          have hnn : Dy.dg (Dy.val m' * 2 ^ g) ≠ [] := fun e => (Nat.mul_ne_zero v2 (by omega)) (Dy.dg_eq_nil.1 e)
          refine ⟨⟨Dy.may_dgn.2 (Dy.len_bl.2 (by omega)), may1, hnn, m1, i1⟩, ?_⟩
          rw [Dy.addD_gap (by omega), hg, Int.toNat_natCast, Dy.int_mk, Dy.int_mk, Dy.val_dg]
          rintro _ rfl _ rfl _ rfl _ rfl
          rfl
      · have h2 := of_decide_eq_false h2
        refine cond_i (fun h3 => ?_) (fun h3 => cond_i (fun h4 => ?_) (fun h4 => ?_))
        · have h3 := of_decide_eq_true h3
          rw [Dy.far_long hd hd' m1 m2 (by omega)]
          rfl
        · have h3 := of_decide_eq_false h3
          have h4 := of_decide_eq_true h4
          refine ⟨⟨hd, hd', m1, m2, rfl, by omega, by omega⟩, ?_⟩
          rintro _ rfl _ rfl _ rfl _ rfl
          rfl
        · have h4 := of_decide_eq_false h4
          obtain ⟨g, hg⟩ : ∃ g : Nat, e - e' = g := ⟨(e - e').toNat, by omega⟩
          rw [hg] at h4 ⊢
          rw [Dy.shiftN_up may1 g (by omega)]
          rintro _ rfl _ - _ -
          have hb := Dy.bl_mul_two_pow v1 g
          have hp := Nat.two_pow_pos g
          have hnn : Dy.dg (Dy.val m * 2 ^ g) ≠ [] := fun e => (Nat.mul_ne_zero v1 (by omega)) (Dy.dg_eq_nil.1 e)
          refine ⟨⟨Dy.may_dgn.2 (Dy.len_bl.2 (by omega)), may2, hnn, m2, i2⟩, ?_⟩
          rw [Dy.addD_gap (by omega), hg, Int.toNat_natCast, Dy.int_mk, Dy.int_mk, Dy.val_dg]
          rintro _ rfl _ rfl _ rfl _ rfl
          rfl
  · cases h
theorem ok_tab14 : PhiOk Tryd.prog Inv (look tab14) := look_cons ok_tab13 ok_dyad_add
theorem ok_dyad_Add (args : List AV) (s : Spec) (h : dAdd args = some s) (hp : andO s.pre True) : Contract Tryd.prog Inv 29 args s.res := by
  unfold dAdd at h
  split at h
  · cases h
    rename_i s m e s' m' e'
    refine contract0 false ok_tab14 Tryd.func29 (by kernel_rfl) (by kernel_rfl) fun hok => ?_
    rw [vc_dyad_Add]
    unfold Dy.boundIf
    refine cond_i (fun h => ?_) (fun h => ?_)
    · simp only [Bool.not_eq_true'] at h
      rw [h]; rfl
    · simp only [Bool.not_eq_false'] at h
      rw [h, if_pos rfl]
      refine ⟨Bool.and_eq_true_iff.1 h, ?_⟩
      rintro _ rfl _ rfl _ rfl _ rfl
      rfl
  · cases h
theorem mayD_neg {s : Bool} {m : List Nat} {e : Int} (h : Dy.mayD ⟨s, m, e⟩ = true) : Dy.mayD ⟨!s && decide (m ≠ []), m, e⟩ = true := by
  rw [Dy.mayD_iff] at h ⊢
  obtain ⟨h1, h2⟩ := h
  refine ⟨h1, ?_⟩
  rcases h2 with ⟨h3, h4, h5⟩ | h2
  · exact .inl ⟨h3, by simp [h3], h5⟩
  · exact .inr h2
theorem ok_dyad_Sub (args : List AV) (s : Spec) (h : dSub args = some s) (hp : andO s.pre True) : Contract Tryd.prog Inv 30 args s.res := by
  unfold dSub at h
  split at h
  · cases h
    rename_i s m e s' m' e'
    refine contract0 false ok_tab14 Tryd.func30 (by kernel_rfl) (by kernel_rfl) fun hok => ?_
    rw [vc_dyad_Sub]
    unfold Dy.boundIf
    refine cond_i (fun h => ?_) (fun h => ?_)
    · simp only [Bool.not_eq_true'] at h
      rw [h]; rfl
    · simp only [Bool.not_eq_false'] at h
      rw [h, if_pos rfl]
      obtain ⟨h1, h2⟩ := Bool.and_eq_true_iff.1 h
      have := Dy.may_len (Dy.mayD_may h2)
      refine ⟨by omega, ?_⟩
      rintro _ rfl _ rfl _ rfl
      refine ⟨⟨h1, mayD_neg h2⟩, ?_⟩
      rintro _ rfl _ rfl _ rfl _ rfl
      rfl
  · cases h
theorem ok_tab15 : PhiOk Tryd.prog Inv (look tab15) := look_cons (look_cons ok_tab14 ok_dyad_Sub) ok_dyad_Add
end Go.AI
