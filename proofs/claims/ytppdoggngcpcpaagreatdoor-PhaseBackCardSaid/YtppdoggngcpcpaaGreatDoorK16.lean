/- My texts AIback3, AIback, AIrow, in one. -/
import Derived.Test.YtppdoggngcpcpaaGreatDoorK15
import Derived.Test.YtppdoggngcpcpaaGreatDoorRows
import Derived.WalkKit
import Derived.ProofKit
import Derived.LaidMore
import Derived.OpenShut
import Derived.Below
import Derived.Carry
import Derived.SizedLaws
import Derived.Lib.LaidTab
import Derived.Deep.Strs
namespace Go.Dy
theorem wide_form {s : Bool} {N : Nat} {e : Int} (hb : bl N ≤ 131072) (h1 : -20000000 ≤ e) (h2 : e + bl N ≤ 20000000) : wideD (form s N e) := by
  by_cases h : N = 0
  · subst h
    rw [form_zero]
    exact ⟨rfl, by decide, fun _ => ⟨rfl, rfl⟩, fun c => absurd rfl c, by decide, by decide⟩
  · obtain ⟨u1, u2, u3, u4, u5⟩ := form_dg (s := s) (n := N) (e := e)
    have hl : (form s N e).mag.length ≤ 4096 := by rw [← u1]; exact len_bl.2 (by omega)
    have ho := div_tz_odd h
    rw [form_pos h] at u1 u4 u5 hl ⊢
    simp only at u4 u5
    have hne : dg (N / 2 ^ tz N) ≠ [] := fun c => by
      have := dg_eq_nil.1 c
      omega
    refine ⟨u1, hl, fun c => absurd c hne, fun _ => by simp only [val_dg]; exact ho, by simp only; omega, by simp only; omega⟩
theorem quoF_wide {a b : Dyd} {n : Int} (ha : bl (val a.mag) ≤ 1280) (hb : bl (val b.mag) ≤ 3800) (hb0 : val b.mag ≠ 0) (hn : 1 ≤ n ∧ n ≤ 3800) (a1 : -16777216 ≤ a.exp) (a2 : a.exp ≤ 16777216) (b1 : -3804 ≤ b.exp) (b2 : b.exp ≤ 3804) :
    wideD (quoF a b n).1 ∧ -17000000 ≤ (quoF a b n).1.exp ∧ (quoF a b n).1.exp ≤ 17000000 := by
  unfold quoF
  by_cases c : a.mag = []
  · rw [if_pos c]
    exact ⟨⟨rfl, by decide, fun _ => ⟨rfl, rfl⟩, fun c => absurd rfl c, by decide, by decide⟩, by decide, by decide⟩
  · rw [if_neg c]
    simp only
    obtain ⟨S, hS⟩ : ∃ S : Nat, quoS (val a.mag) (val b.mag) n = S := ⟨_, rfl⟩
    have hS2 : S ≤ 7601 := by
      rw [← hS]
      unfold quoS
      omega
    rw [hS]
    obtain ⟨q, hq⟩ : ∃ q : Nat, val a.mag * 2 ^ S / val b.mag = q := ⟨_, rfl⟩
    have hqb : bl q ≤ 1280 + S := by
      have h1 := bl_mono (Nat.div_le_self (val a.mag * 2 ^ S) (val b.mag))
      rw [hq] at h1
      exact Nat.le_trans h1 (bl_mul_le ha)
    rw [hq, form_sgn, cutR_formZ _ _ _ hn.1]
    simp only [natAbs_sgn]
    obtain ⟨j, hj⟩ : ∃ j : Nat, ((bl q : Int) - n).toNat = j := ⟨_, rfl⟩
    rw [hj]
    have hjb : bl (q / 2 ^ j) ≤ 131072 := by rw [bl_div_two_pow]; omega
    have hjb2 : bl (q / 2 ^ j) ≤ bl q := by rw [bl_div_two_pow]; omega
    obtain ⟨u1, u2, u3, u4, u5⟩ := form_dg (s := decide (sgn (a.neg != b.neg) q < 0)) (n := q / 2 ^ j) (e := a.exp - b.exp - (S : Int) + (j : Int))
    exact ⟨wide_form hjb (by omega) (by omega), by omega, by omega⟩
theorem floor_small {z : Int} {V : Nat} (h0 : 0 < z) (h1 : z < 2 ^ V) : floorD (formZ z (-(V : Int))) = zeroD := by
  have ha := at_formZ_self z (-(V : Int))
  have hx : -(V : Int) ≤ (formZ z (-(V : Int))).exp := exp_formZ (Int.le_refl _) (by omega)
  generalize formZ z (-(V : Int)) = d at *
  obtain ⟨j, hj⟩ : ∃ j : Nat, (d.exp - -(V : Int)).toNat = j := ⟨_, rfl⟩
  unfold at_ at ha
  rw [hj] at ha
  have hp : (0 : Int) < 2 ^ j := Int.pow_pos (by decide)
  have hi : 0 < d.int := by
    refine Int.lt_of_mul_lt_mul_right (a := 2 ^ j) ?_ (Int.le_of_lt hp)
    rw [Int.zero_mul, ha]
    exact h0
  by_cases c : 0 ≤ d.exp
  · have h2 : (2 : Int) ^ V ≤ 2 ^ j := two_le (by omega)
    have h3 := Int.mul_le_mul_of_nonneg_right (show 1 ≤ d.int by omega) (Int.le_of_lt hp)
    omega
  · unfold floorD
    rw [if_neg c]
    have h2 : d.int < 2 ^ (-d.exp).toNat := by
      refine Int.lt_of_mul_lt_mul_right (a := 2 ^ j) ?_ (Int.le_of_lt hp)
      rw [ha, ← Int.pow_add, show (-d.exp).toNat + j = V by omega]
      exact h1
    rw [Int.ediv_eq_zero_of_lt (Int.le_of_lt hi) h2]
    rfl
theorem wide_unit {u : Int} (h1 : -20000000 ≤ u) (h2 : u ≤ 20000000) : wideD (unitOf u) :=
  ⟨(by kernel_rfl : dg (val [1]) = [1]), (by decide : ([1] : List Nat).length ≤ 4096), fun c => absurd c (by show ¬ ([1] : List Nat) = []; decide), fun _ => (by decide : val [1] % 2 = 1), h1, h2⟩
theorem zero_mul (b : Dyd) : mulD zeroD b = zeroD := by
  unfold mulD zeroD
  rw [show val ([] : List Nat) = 0 from rfl, Nat.zero_mul, form_zero]
  rfl
set_option maxHeartbeats 4000000 in
theorem back_small {x : Dyd} (hx : mayD x = true) (hm : x.mag ≠ []) (hl : x.mag.length ≤ 40) (ht : topD x < 0) {b n : Nat} (hb : 1 ≤ b) (hb2 : b ≤ 600) (hn : n = 2 * b + 1400) : BackOk x (cutR x b).1 (piCut n) b n 0 := by
  obtain ⟨x1, x2⟩ := mayD_exp hx
  have htx : topD x = x.exp + bl (val x.mag) := by unfold topD; rw [if_neg hm]
  have hbx : bl (val x.mag) ≤ 1280 := len_bits (k := 40) (may_dg (mayD_may (s := x.neg) (m := x.mag) (e := x.exp) hx)) hl
  obtain ⟨v, hv⟩ : ∃ v : Nat, v = (-x.exp).toNat := ⟨_, rfl⟩
  have hxe : x.exp = -(v : Int) := by omega
  rw [cut_form (V := v) hx hb (by omega)]
  have hxn : (at_ x (-(v : Int))).natAbs = val x.mag := by
    unfold at_
    rw [hxe, show (-(v : Int) - -(v : Int)).toNat = 0 by omega, Int.pow_zero, Int.mul_one, Dyd.int_eq, natAbs_sgn]
  have hpc := fun V hV => pi_cut_facts (n := n) (V := V) (by omega) (by omega) hV
  obtain ⟨V, hV⟩ : ∃ V : Nat, V = 20000000 := ⟨_, rfl⟩
  obtain ⟨fp, pn, pm, fh, f4, hH, hQ4, q1, q2⟩ := hpc V (by omega)
  clear hpc
  generalize piCut n = p at *
  generalize piQ n = Q at *
  obtain ⟨M, hM⟩ : ∃ M : Nat, val x.mag = M := ⟨_, rfl⟩
  rw [hM] at hxn htx hbx
  have hM0 : M ≠ 0 := by rw [← hM]; exact val_ne (mayD_may (s := x.neg) (m := x.mag) (e := x.exp) hx) hm
  have hcv : (cutV (at_ x (-(v : Int))) b).natAbs = cutN M b := by unfold cutV; rw [natAbs_sgn, hxn]
  have hcd := cut_diff (at_ x (-(v : Int))) b
  rw [hxn] at hcd
  have hc1 := cutN_le M b
  have hc2 := cutN_lt M b
  have hcb := bl_cutN M hb
  generalize hX : at_ x (-(v : Int)) = X at *
  generalize hZ : cutV X b = Z at *
  generalize hB : bl M = B at *
  have hB0 : 0 < B := by rw [← hB]; exact bl_pos.2 hM0
  have hZ0 : Z ≠ 0 := fun e => by
    rw [e] at hcv
    rw [← hcv, show Int.natAbs 0 = 0 from rfl, bl_zero] at hcb
    omega
  have rt := top_formZ (e := -(v : Int)) hZ0
  rw [hcv, hcb] at rt
  have rm := formZ_ne (e := -(v : Int)) hZ0
  have fr : Fit (formZ Z (-(v : Int))) 1280 16777216 := formZ_fit2 (by rw [hcv, hcb]; omega) (by omega) (by omega) (by decide) (by decide)
  have rx : -(v : Int) ≤ (formZ Z (-(v : Int))).exp := exp_formZ (Int.le_refl _) (by omega)
  have hatr : at_ (formZ Z (-(v : Int))) (-(V : Int)) = Z * 2 ^ (V - v) := by
    rw [at_formZ (by omega), show (-(v : Int) - -(V : Int)).toNat = V - v by omega]
  have hys : subD x (formZ Z (-(v : Int))) = formZ (X - Z) (-(v : Int)) := by
    unfold subD
    rw [addD_at (u := -(v : Int)) (by omega) (show -(v : Int) ≤ (negD (formZ Z (-(v : Int)))).exp from rx), at_negD, hX, at_formZ_self, Int.sub_eq_add_neg]
  generalize hr : formZ Z (-(v : Int)) = r at *
  have rt2 : topD r = r.exp + bl (val r.mag) := by unfold topD; rw [if_neg rm]
  have fy : Fit (subD x r) 1280 16777216 := by
    rw [hys]
    exact formZ_fit2 (by rw [hcd]; exact Nat.le_trans (bl_mono (Nat.sub_le _ _)) (by omega)) (by omega) (by omega) (by decide) (by decide)
  have yx : -(v : Int) ≤ (subD x r).exp := by rw [hys]; exact exp_formZ (Int.le_refl _) (by omega)
  have y2 := fy.hi
  have yb := fy.bits
  have hb3 := fh.bits
  have h1lo := fh.lo
  have h1hi := fh.hi
  have h4lo := f4.lo
  have hhb : val (shE p (-1)).mag ≠ 0 := val_ne (mayD_may (s := p.neg) (m := p.mag) (e := p.exp) fp.may) pm
  have hqw := quoF_wide (a := subD x r) (b := shE p (-1)) yb hb3 hhb (n := (n : Int)) ⟨by omega, by omega⟩ (by omega) (by omega) (by omega) (by omega)
  have hY : at_ (subD x r) (-(V : Int)) = (X - Z) * 2 ^ (V - v) := by
    rw [hys, at_formZ (by omega), show (-(v : Int) - -(V : Int)).toNat = V - v by omega]
  have hY2 : at_ (subD x r) (-(2 * V : Int)) = (X - Z) * 2 ^ (V - v) * 2 ^ V := by
    rw [at_scale (subD x r) (u := -(V : Int)) (by omega) (by omega), hY, show (-(V : Int) - -(2 * V : Int)).toNat = V by omega]
  have hyn : (X - Z).natAbs < 2 ^ (B - b) := by omega
  have hyV : ((X - Z) * 2 ^ (V - v)).natAbs < 2 ^ (V - 2) := by
    rw [Int.natAbs_mul, ← pow_cast, Int.natAbs_natCast]
    by_cases c : b ≤ B
    · have h1 := Nat.mul_lt_mul_of_pos_right hyn (Nat.two_pow_pos (V - v))
      rw [← Nat.pow_add] at h1
      exact Nat.lt_of_lt_of_le h1 (Nat.pow_le_pow_right (by decide) (by omega))
    · rw [show B - b = 0 by omega, Nat.pow_zero] at hyn
      rw [show (X - Z).natAbs = 0 by omega, Nat.zero_mul]
      exact Nat.two_pow_pos _
  obtain ⟨W, hW⟩ : ∃ W : Nat, (2 : Nat) ^ (V + 1 - n) = W := ⟨_, rfl⟩
  have hWi : (2 : Int) ^ (V + 1 - n) = (W : Int) := by rw [← pow_cast, hW]
  rw [hWi] at hH
  have g1 : 2 ^ V ≤ Q * W := by
    have := Nat.mul_le_mul_right W q1
    rw [← hW, ← Nat.pow_add, show n - 1 + (V + 1 - n) = V by omega, hW] at this
    exact this
  obtain ⟨H, hHd⟩ : ∃ H : Nat, Q * W = H := ⟨_, rfl⟩
  have hHi : (Q : Int) * (W : Int) = (H : Int) := by rw [← Int.natCast_mul, hHd]
  rw [hHi] at hH
  rw [hHd] at g1
  have p0 := Nat.two_pow_pos V
  have hNb : (at_ (subD x r) (-(2 * V : Int))).natAbs < 2 ^ (V - 2) * (at_ (shE p (-1)) (-(V : Int))).natAbs := by
    rw [hY2, hH, Int.natAbs_mul, ← pow_cast V, Int.natAbs_natCast, Int.natAbs_natCast]
    exact Nat.lt_of_lt_of_le (Nat.mul_lt_mul_of_pos_right hyV p0) (Nat.mul_le_mul_left _ g1)
  have hqn := quoF_near (a := subD x r) (b := shE p (-1)) fy.may fh.may pn pm (n := n) (by omega) (V := V) (by omega) (by omega) (by omega) (by rw [hH]; omega) (N := V - 2) (by omega) hNb
  have hqn : -(2 ^ (V - 2 - n) * at_ (shE p (-1)) (-(V : Int))) ≤ at_ (backT x r p n) (-(V : Int)) * at_ (shE p (-1)) (-(V : Int)) - at_ (subD x r) (-(2 * V : Int)) ∧ at_ (backT x r p n) (-(V : Int)) * at_ (shE p (-1)) (-(V : Int)) - at_ (subD x r) (-(2 * V : Int)) ≤ 2 ^ (V - 2 - n) * at_ (shE p (-1)) (-(V : Int)) := hqn
  have hqw : wideD (backT x r p n) ∧ -17000000 ≤ (backT x r p n).exp ∧ (backT x r p n).exp ≤ 17000000 := hqw
  rw [hH, hY2] at hqn
  obtain ⟨tV, htV⟩ : ∃ tV : Int, at_ (backT x r p n) (-(V : Int)) = tV := ⟨_, rfl⟩
  rw [htV] at hqn
  have htb : -(2 ^ (V - 1)) < tV ∧ tV < 2 ^ (V - 1) := by
    have hA : (2 : Int) ^ (V - 1) = 2 * 2 ^ (V - 2) := by rw [show V - 1 = V - 2 + 1 by omega, Int.pow_succ, Int.mul_comm]
    have hyi := abs_lt_pow hyV
    have hE : (2 : Int) ^ (V - 2 - n) ≤ 2 ^ (V - 2) := two_le (by omega)
    have gi := pow_cast V
    have DH : (2 : Int) ^ V ≤ H := by rw [← gi]; exact Int.ofNat_le.2 g1
    have D0 : (0 : Int) < 2 ^ V := Int.pow_pos (by decide)
    rw [hA]
    generalize (2 : Int) ^ (V - 2) = A at *
    generalize (2 : Int) ^ (V - 2 - n) = E at *
    generalize (X - Z) * 2 ^ (V - v) = Y at *
    have H0 : (0 : Int) ≤ H := by omega
    have k1 := Int.mul_le_mul_of_nonneg_right (show Y ≤ A - 1 by omega) (Int.le_of_lt D0)
    have k2 := Int.mul_le_mul_of_nonneg_right (show -A + 1 ≤ Y by omega) (Int.le_of_lt D0)
    rw [Int.sub_mul, Int.one_mul] at k1
    rw [Int.add_mul, Int.one_mul, Int.neg_mul] at k2
    have k3 := Int.mul_le_mul_of_nonneg_left DH (show 0 ≤ A by omega)
    have k4 := Int.mul_le_mul_of_nonneg_right hE H0
    constructor
    · refine Int.lt_of_mul_lt_mul_right (a := (H : Int)) ?_ H0
      rw [Int.neg_mul, Int.mul_assoc]
      omega
    · refine Int.lt_of_mul_lt_mul_right (a := (H : Int)) ?_ H0
      rw [Int.mul_assoc]
      omega
  have hv1 : (2 : Int) ^ V = 2 * 2 ^ (V - 1) := by
    have : (2 : Int) ^ (V - 1 + 1) = 2 ^ (V - 1) * 2 := Int.pow_succ ..
    rw [show V - 1 + 1 = V by omega] at this
    omega
  have hs : backS x r p n = formZ (tV + 2 ^ (V - 1)) (-(V : Int)) := by
    unfold backS
    rw [addD_at (u := -(V : Int)) (by omega) (by show -(V : Int) ≤ -1; omega), htV, unit_at _ _ (by omega), show ((-1 : Int) - -(V : Int)).toNat = V - 1 by omega]
  obtain ⟨z, hz⟩ : ∃ z : Int, tV + 2 ^ (V - 1) = z := ⟨_, rfl⟩
  rw [hz] at hs
  have hk : backK x r p n = zeroD := by
    unfold backK
    rw [hs]
    exact floor_small (by omega) (by omega)
  have hf : backF x r p n = subD x r := by
    unfold backF
    rw [hk, zero_mul]
    exact addD_nil fy.may (by kernel_rfl)
  have sm : (backS x r p n).mag ≠ [] := by rw [hs]; exact formZ_ne (by omega)
  have st : topD (backS x r p n) = -(V : Int) + bl z.natAbs := by rw [hs]; exact top_formZ (by omega)
  have st2 : topD (backS x r p n) = (backS x r p n).exp + bl (val (backS x r p n).mag) := by unfold topD; rw [if_neg sm]
  have sx : -(V : Int) ≤ (backS x r p n).exp := by rw [hs]; exact exp_formZ (Int.le_refl _) (by omega)
  have zb : bl z.natAbs ≤ V := bl_lt_pow (by omega) (by omega)
  have sd : dg (val (backS x r p n).mag) = (backS x r p n).mag := by
    rw [hs]
    exact (form_dg (s := decide (z < 0)) (n := z.natAbs) (e := -(V : Int))).1
  have sl : (backS x r p n).mag.length ≤ 1000000 := by
    rw [← sd]
    exact (length_dg_bl (k := 1000000)).2 (by omega)
  have ysm : (subD x r).mag ≠ [] → (subD x r).exp + bl (val (subD x r).mag) ≤ topD r - b := fun c => by
    have h1 : topD (subD x r) = (subD x r).exp + bl (val (subD x r).mag) := by unfold topD; rw [if_neg c]
    have h0 : X - Z ≠ 0 := fun e => by
      rw [hys, e] at c
      exact c rfl
    have h2 := top_formZ (e := -(v : Int)) h0
    rw [← hys, h1] at h2
    have h3 := bl_le.2 hyn
    by_cases c : b ≤ B
    · omega
    · rw [show B - b = 0 by omega, Nat.pow_zero] at hyn
      omega
  have wu : wideD (unitOf (topD r - b + 1)) := wide_unit (by omega) (by omega)
  have wy := wide_may (abs_may fy.may)
  have rb := fr.bits
  refine {
    r_may := fr.may
    abs_may := abs_may fr.may
    q4_may := f4.may
    le4 := cmp_le (u := -(V : Int)) (show -(V : Int) ≤ r.exp by omega) (by omega) ?_
    r_sign := sign_ne rm
    xr := ⟨by omega, by omega⟩
    y_may := fy.may
    h_may := fh.may
    p_ne := pm
    p_exp := ⟨by have := fp.lo; omega, by have := fp.hi; omega⟩
    y_len := fit_len fy (by decide)
    p_len := fit_len fp (by decide)
    t_wide := hqw.1
    t_exp := .inr ⟨by omega, by omega⟩
    s_pre := ⟨sd, sl, fun c => absurd c sm, by omega, by omega, by omega⟩
    k_may := by rw [hk]; kernel_rfl
    kh_may := by rw [hk, zero_mul]; kernel_rfl
    y_kh := .inr (.inl (by rw [hk, zero_mul]; rfl))
    k_exp := by rw [hk]; exact ⟨by decide, by decide⟩
    k_len := by rw [hk]; decide
    k_val := by rw [hk]; kernel_rfl
    r_exp := ⟨fr.lo, fr.hi⟩
    r_len := Nat.le_trans (fit_len (k := 40) fr (by decide)) (by decide)
    r_top := ⟨by omega, by omega⟩
    f_pre := .inr ⟨by rw [hf]; exact wy, wu, by rw [hf]; exact fun c => Int.lt_of_le_of_lt (ysm c) (by omega)⟩
    f_le := by
      rw [hf]
      have h1 : cmpD (absD (subD x r)) (unitOf (topD r - b + 1)) = -1 := cmp_wide (by decide) (fun c => by
        rw [show bl (val [1]) = 1 from by kernel_rfl]
        exact Int.lt_of_le_of_lt (ysm c) (by omega))
      rw [h1]
      decide }
  rw [at_absD, hatr, hQ4, Int.natAbs_mul, ← pow_cast, ← pow_cast, Int.natAbs_natCast, ← Int.natCast_mul, hcv]
  refine Int.ofNat_le.2 ?_
  have h1 : cutN M b < 2 ^ B := Nat.lt_of_le_of_lt hc1 (bl_le.1 (by omega))
  have h2 := Nat.mul_lt_mul_of_pos_right h1 (Nat.two_pow_pos (V - v))
  rw [← Nat.pow_add] at h2
  have h3 : 2 ^ (B + (V - v)) ≤ 2 ^ (n - 1 + (V - n)) := Nat.pow_le_pow_right (by decide) (by omega)
  rw [Nat.pow_add 2 (n - 1)] at h3
  have h4 := Nat.mul_le_mul_right (2 ^ (V - n)) q1
  omega
theorem back_ok {x : Dyd} {b n : Nat} (hr : refuse x b = 0) (hb : b ≤ 600) (hm : x.mag ≠ []) (hn : (n : Int) = (if (0 : Int) > topD x then (0 : Int) else topD x) + 2 * b + 1400) : BackOk x (redR x b) (piCut n) b n (redK x b) := by
  have hh := refuse_ok.1 hr
  have hs : signD x ≠ 0 := sign_ne hm
  unfold redR redK
  rw [if_pos hr, if_pos hr]
  by_cases c : topD x < 0
  · rw [if_pos (.inl c), if_pos (.inl c)]
    rw [if_pos (show (0 : Int) > topD x from c)] at hn
    exact back_small hh.1 hm hh.2.2.2.1 c (by omega) hb (by omega)
  · have hno : ¬ (topD x < 0 ∨ signD x = 0) := fun d => d.elim c hs
    rw [if_neg hno, if_neg hno]
    rw [if_neg (by omega)] at hn
    exact back_big (angle_of hr hno) (by omega) hb hn
theorem back_zero {x : Dyd} {b : Int} (hr : refuse x b = 0) (hs : signD x = 0) : redK x b = 0 ∧ signD (redR x b) = 0 := by
  have hm : x.mag = [] := by
    refine Decidable.byContradiction fun c => sign_ne c hs
  unfold redR redK
  rw [if_pos hr, if_pos hr, if_pos (.inr hs), if_pos (.inr hs)]
  refine ⟨rfl, ?_⟩
  have hh := refuse_ok.1 hr
  unfold cutR overD
  rw [hm, show val ([] : List Nat) = 0 from rfl, bl_zero, if_pos (by omega)]
  exact hs
end Go.Dy

namespace Go.AI
open Go Go.RowKit Go.Proofs
set_option linter.unusedVariables false
set_option maxRecDepth 100000
set_option maxHeartbeats 4000000
theorem ok_law_PhaseBack (s : Bool) (m : List Nat) (e b : Int) : Contract Tryz.prog Inv 4 [.agg [.bool s, .dig [1] m, .num .i64 e], .num .i64 b] (.bool true) := by
  refine contract0 false ok_tabX Tryz.func4 (by kernel_rfl) (by kernel_rfl) fun hok => ?_
  rw [vc_law17_PhaseBack]
  refine cond_i (fun _ => rfl) (fun h1 => cond_i (fun _ => rfl) (fun h2 => ?_))
  have h1 := of_decide_eq_false h1
  simp only [Bool.not_eq_false', decide_eq_true_eq] at h2
  have hh := Dy.refuse_ok.1 h2
  have hdx : Dy.mayD ⟨s, m, e⟩ = true := hh.1
  have hml : m.length ≤ 40 := hh.2.2.2.1
  have hex := Dy.mayD_exp hdx
  have htop := hh.2.2.2.2
  have hdg := Dy.may_dg (Dy.mayD_may hdx)
  refine ⟨by omega, ?_⟩
  intro n1 e1
  refine dpeel fun b2 l3 n4 d2 => ?_
  intro n5 e5
  rw [h2] at e5
  have hrg := Dy.redK_range h2
  rw [← e1] at hrg
  refine cond_f (by rw [e5]; rfl) (cond_f (decide_eq_false (by omega)) (cond_f (decide_eq_false (by omega)) (cond_i (fun h3 => ?_) (fun h3 => ?_))))
  · have hz := Dy.back_zero h2 (of_decide_eq_true h3)
    refine cond_t (decide_eq_true (by rw [e1]; exact hz.1)) (cond_t (decide_eq_true ?_) rfl)
    rw [d2]
    exact hz.2
  have h3 := of_decide_eq_false h3
  have hm : m ≠ [] := fun c => h3 (by unfold Dy.signD; rw [if_pos c])
  obtain ⟨bb, hbb⟩ : ∃ bb : Nat, b = (bb : Int) := ⟨b.toNat, by omega⟩
  have ht0 : 0 ≤ (if (0 : Int) > Dy.topD ⟨s, m, e⟩ then (0 : Int) else Dy.topD ⟨s, m, e⟩) ∧ (if (0 : Int) > Dy.topD ⟨s, m, e⟩ then (0 : Int) else Dy.topD ⟨s, m, e⟩) ≤ 1100 := by split <;> omega
  obtain ⟨n, hn⟩ : ∃ n : Nat, (n : Int) = (if (0 : Int) > Dy.topD ⟨s, m, e⟩ then (0 : Int) else Dy.topD ⟨s, m, e⟩) + 2 * b + 1400 := ⟨((if (0 : Int) > Dy.topD ⟨s, m, e⟩ then (0 : Int) else Dy.topD ⟨s, m, e⟩) + 2 * b + 1400).toNat, by omega⟩
  have hw : IntKind.i64.wrap (IntKind.i64.wrap ((if (0 : Int) > Dy.topD ⟨s, m, e⟩ then (0 : Int) else Dy.topD ⟨s, m, e⟩) + IntKind.i64.wrap (2 * b)) + 1400) = (n : Int) := by
    rw [wrap_i64 (n := 2 * b) (by omega) (by omega), wrap_i64 (n := (if (0 : Int) > Dy.topD ⟨s, m, e⟩ then (0 : Int) else Dy.topD ⟨s, m, e⟩) + 2 * b) (by omega) (by omega), wrap_i64 (by omega) (by omega), hn]
  rw [hw, Int.toNat_natCast]
  subst hbb
  have bo := Dy.back_ok (n := n) h2 (by omega) hm hn
  rw [← d2, ← e1] at bo
  have hr : Dy.Dyd.mk b2 l3 n4 = Dy.redR ⟨s, m, e⟩ bb := d2
  clear hw d2
  have rx := bo.r_exp
  have rl : l3.length ≤ 4096 := bo.r_len
  have rt := bo.r_top
  simp only at rx
  refine ⟨⟨hdg, by omega, by omega, by omega⟩, ⟨by omega, by omega⟩, dpeel fun b6 l7 n8 d6 => ?_⟩
  rw [← d6] at bo
  have px := bo.p_exp
  simp only at px
  have hsh : l7 = [] ∨ ((-1099511627776 : Int) ≤ n8 ∧ n8 ≤ 1099511627776 ∧ (-1099511627776 : Int) ≤ -2 ∧ (-2 : Int) ≤ 1099511627776) := .inr ⟨by omega, by omega, by decide, by decide⟩
  have hsh1 : l7 = [] ∨ ((-1099511627776 : Int) ≤ n8 ∧ n8 ≤ 1099511627776 ∧ (-1099511627776 : Int) ≤ -1 ∧ (-1 : Int) ≤ 1099511627776) := .inr ⟨by omega, by omega, by decide, by decide⟩
  intro b9 h9 l10 h10 n11 h11
  rw [h9, h10, h11]
  refine ⟨hsh, ?_⟩
  intro b12 h12 l13 h13 n14 h14
  rw [h12, h13, h14]
  refine ⟨.inl ⟨bo.abs_may, bo.q4_may⟩, cond_f (decide_eq_false (Int.not_lt.2 bo.le4)) (cond_f (decide_eq_false bo.r_sign) ⟨⟨hdx, bo.r_may, .inr (.inr bo.xr)⟩, dpeel fun b15 l16 n17 d15 => ⟨hsh1, ?_⟩⟩)⟩
  have d15 : Dy.Dyd.mk b15 l16 n17 = Dy.subD ⟨s, m, e⟩ ⟨b2, l3, n4⟩ := d15
  intro b18 h18 l19 h19 n20 h20
  rw [h18, h19, h20]
  have ym := bo.y_may
  have yl := bo.y_len
  rw [← d15] at ym yl
  refine ⟨⟨ym, bo.h_may, bo.p_ne, by omega, by omega, yl, bo.p_len⟩, dpeel fun b21 l22 n23 d21 => ?_⟩
  rw [d15] at d21
  have d21 : Dy.Dyd.mk b21 l22 n23 = Dy.backT ⟨s, m, e⟩ ⟨b2, l3, n4⟩ ⟨b6, l7, n8⟩ n := d21
  have tw := bo.t_wide
  have tx := bo.t_exp
  rw [← d21] at tw tx
  intro b24 _
  refine dpeel fun b25 l26 n27 d25 => ?_
  obtain ⟨h25, h26, h27⟩ : b25 = false ∧ l26 = [1] ∧ n27 = -1 := by unfold Dy.unitOf at d25; cases d25; exact ⟨rfl, rfl, rfl⟩
  rw [h25, h26, h27]
  refine ⟨⟨tw, Dy.wide_unit (u := -1) (by decide) (by decide), ?_⟩, dpeel fun b28 l29 n30 d28 => ?_⟩
  · rcases tx with c | c
    · exact .inl c
    · exact .inr (.inr c)
  rw [d21] at d28
  have d28 : Dy.Dyd.mk b28 l29 n30 = Dy.backS ⟨s, m, e⟩ ⟨b2, l3, n4⟩ ⟨b6, l7, n8⟩ n := d28
  have sp := bo.s_pre
  rw [← d28] at sp
  refine ⟨sp, dpeel fun b31 l32 n33 d31 => ⟨⟨hdx, bo.r_may, .inr (.inr bo.xr)⟩, dpeel fun b34 l35 n36 d34 => ⟨hsh1, ?_⟩⟩⟩
  rw [d28] at d31
  have d31 : Dy.Dyd.mk b31 l32 n33 = Dy.backK ⟨s, m, e⟩ ⟨b2, l3, n4⟩ ⟨b6, l7, n8⟩ n := d31
  have d34 : Dy.Dyd.mk b34 l35 n36 = Dy.subD ⟨s, m, e⟩ ⟨b2, l3, n4⟩ := d34
  intro b37 h37 l38 h38 n39 h39
  rw [h37, h38, h39]
  have km := bo.k_may
  have kl := bo.k_len
  have kx := bo.k_exp
  have kv := bo.k_val
  rw [← d31] at km kl kx kv
  refine ⟨⟨km, bo.h_may⟩, dpeel fun b40 l41 n42 d40 => ?_⟩
  rw [d31] at d40
  have d40 : Dy.Dyd.mk b40 l41 n42 = Dy.mulD (Dy.backK ⟨s, m, e⟩ ⟨b2, l3, n4⟩ ⟨b6, l7, n8⟩ n) (Dy.shE ⟨b6, l7, n8⟩ (-1)) := d40
  have khm := bo.kh_may
  have ykh := bo.y_kh
  have ym := bo.y_may
  rw [← d40] at khm ykh
  rw [← d34] at ym ykh
  refine ⟨⟨ym, khm, ykh⟩, dpeel fun b43 l44 n45 d43 => ?_⟩
  rw [d34, d40] at d43
  have d43 : Dy.Dyd.mk b43 l44 n45 = Dy.backF ⟨s, m, e⟩ ⟨b2, l3, n4⟩ ⟨b6, l7, n8⟩ n := d43
  intro b46 h46 l47 h47 n48 h48
  rw [h46, h47, h48]
  have fpre := bo.f_pre
  have fle := bo.f_le
  rw [← d43] at fpre fle
  refine ⟨⟨km, kx.1, kx.2, kl⟩, cond_t (decide_eq_true kv) ⟨⟨Dy.may_dg (Dy.mayD_may bo.r_may), by omega, by omega, by omega⟩, dpeel fun b49 l50 n51 d49 => ?_⟩⟩
  rw [wrap_i64 (n := Dy.topD ⟨b2, l3, n4⟩ - (bb : Int)) (by omega) (by omega), wrap_i64 (by omega) (by omega)] at d49
  rw [← d49] at fpre fle
  obtain ⟨h49, h50, h51⟩ : b49 = false ∧ l50 = [1] ∧ n51 = Dy.topD ⟨b2, l3, n4⟩ - (bb : Int) + 1 := by unfold Dy.unitOf at d49; cases d49; exact ⟨rfl, rfl, rfl⟩
  refine ⟨?_, cond_t (decide_eq_true fle) rfl⟩
  rcases fpre with c | c
  · exact .inl c
  · refine .inr ⟨c.1, c.2.1, rfl, h49, by rw [h50]; decide, fun c5 => ?_⟩
    have := c.2.2 c5
    rw [h50, show Dy.bl (Dy.val [1]) = 1 from by kernel_rfl, h51]
    exact this
end Go.AI

namespace Go.AI
open Go Go.RowKit Go.Proofs Go.ChangeShapes Go.WideShapes Go.ChangeAt
set_option linter.unusedVariables false
set_option maxRecDepth 100000
theorem rowOwn : ownKnob Tryz.prog.godebug = none := by kernel_rfl
theorem rowOut : laidOutB Tryz.prog = true := by kernel_rfl
theorem gTab : Tryz.prog.globalNamed "math/bits.deBruijn32tab" = some 0 := by kernel_rfl
abbrev tabLaid : List (String × DataW Unit) := [("math/bits.deBruijn32tab", YtppdoggngcpcpaaGreatDoor.Rows.laid_math_bits_deBruijn32tab)]
theorem tab_eq : (YtppdoggngcpcpaaGreatDoor.Rows.laid_math_bits_deBruijn32tab : DataW Unit) = Lib.tabData .u8 (Lib.deBruijn32tab.map fun (x : Nat) => (x : Int)) := by rfl
theorem inv_of_laid {W : World} (h : laidMetH Tryz.prog tabLaid W) : Inv W := by
  rw [MakeChecks.laidMetH_plain _ _ _ (by kernel_rfl)] at h
  unfold tabLaid at h
  rw [tab_eq] at h
  have hT := Lib.tabIs_of_head (rest := []) gTab (by kernel_rfl : (Tryz.prog.globals[0]?).map (·.type) = some 129) Tryz.underlying129 Tryz.underlying5 (by kernel_rfl) (by kernel_rfl) h
  intro j hj
  have := hT.cell gTab j (by rw [List.length_map, show Lib.deBruijn32tab.length = 32 from rfl]; exact hj)
  rw [this]
  have hl : j < Lib.deBruijn32tab.length := hj
  simp [List.getD_eq_getElem?_getD, hl]
abbrev allβ (W : World) : Nat → Nat → Prop := fun _ x => x < W.heap.size
theorem weights_part {H : Type} {P : Program} {ts : List TypeId} {ds : List (DataW H)} (h : (DataW.weightsEach P ts ds).all (· ≤ reachBytes) = true) {j : Nat} {t : TypeId} {d : DataW H} (ht : ts[j]? = some t) (hd : ds[j]? = some d) {n : Nat} (hn : n ∈ d.weights P t) : n ≤ reachBytes := by
  have := List.all_eq_true.1 h n (DataW.weights_mem_each ht hd n hn)
  simpa using this
theorem open_num {H : Type} {enc : TypeId × Value → H} {W : World} {b0 na : Nat} {t : TypeId} {k : IntKind} {v : Value} {d : DataW H} {ps : List MemPlace} (hu : Tryz.prog.underlying t = some (.int k)) (hval : Value.okWide Tryz.prog W .any b0 t v) (hd : DataW.Trod enc Tryz.prog W 0 (fun _ => true) true t v d ps) :
    ∃ n, V ⟨argBs na, allβ W, W⟩ (.num k n) v := by
  obtain ⟨n, rfl, _, _, hw⟩ := open_int hu hval hd
  refine ⟨n, ?_⟩
  simp only [V]
  simp only [Lit.wf, Bool.and_eq_true, decide_eq_true_eq] at hw
  exact ⟨trivial, hw⟩
theorem dyTypes : Tryz.prog.cellTypes Tryz.prog.depth 24 = some [4, 22, 3] := by kernel_rfl
theorem dyCells : Tryz.prog.cellsOf 24 = 3 := by kernel_rfl
theorem oneSlice : Tryz.prog.cellsOf 22 = 1 := by kernel_rfl
theorem oneU32 : Tryz.prog.cellsOf 33 = 1 := by kernel_rfl
theorem bytesU32 : Tryz.prog.bytesOf 33 = 4 := by kernel_rfl
theorem open_dy {H : Type} {enc : TypeId × Value → H} {W : World} {b0 na : Nat} {v : Value} {d : DataW H} {ps : List MemPlace} {ts : List TypeId} {ds : List (DataW H)} (i : Nat) (hi : i ≤ na) (hval : Value.okWide Tryz.prog W .any b0 24 v)
    (hd : DataW.Trod enc Tryz.prog W 0 (fun _ => true) true 24 v d ps) (hsz : (DataW.weightsEach Tryz.prog ts ds).all (· ≤ reachBytes) = true) {j : Nat} (ht : ts[j]? = some 24) (hdj : ds[j]? = some d) :
    ∃ s l e, V ⟨argBs na, allβ W, W⟩ (.agg [.bool s, .dig [i] l, .num .i64 e]) v := by
  simp only [Value.okWide, Tryz.underlying24] at hval
  obtain ⟨cs, rfl, hcs, ts', hct, _, hrow⟩ := hval
  rw [dyTypes] at hct
  cases hct
  rw [dyCells] at hcs
  obtain ⟨c0, c1, c2, rfl⟩ : ∃ c0 c1 c2, cs = #[c0, c1, c2] := by
    obtain ⟨l⟩ := cs
    match l, hcs with
    | [a, b, c], _ => exact ⟨a, b, c, rfl⟩
  obtain ⟨u0, hu0, k0⟩ := hrow 0 c0 rfl
  obtain ⟨u1, hu1, k1⟩ := hrow 1 c1 rfl
  obtain ⟨u2, hu2, k2⟩ := hrow 2 c2 rfl
  simp at hu0 hu1 hu2
  subst hu0 hu1 hu2
  obtain ⟨fuel, hf⟩ := hd
  obtain ⟨y0, y1, y2, n, hx, _, g0, g1, g2⟩ := Deep.trod_struct3 Tryz.underlying24 hf
  simp only [Value.cells, oneSlice] at g1
  simp only [Prod.mk.injEq] at hx
  obtain ⟨rfl, -⟩ := hx
  have hb : ∃ s, c0 = .bool s := by
    simp only [Cell.okWide, Cell.ok, Tryz.underlying4] at k0
    cases c0 <;> simp at k0
    exact ⟨_, rfl⟩
  have he : ∃ e, c2 = .int .i64 e ∧ IntKind.i64.min ≤ e ∧ e ≤ IntKind.i64.max := by
    simp only [Cell.okWide, Cell.ok, Tryz.underlying3] at k2
    cases c2 <;> simp at k2
    obtain ⟨rfl, h⟩ := k2
    exact ⟨_, rfl, h.1, h.2⟩
  obtain ⟨s, rfl⟩ := hb
  obtain ⟨e, rfl, he⟩ := he
  have g1' : DataW.trod enc Tryz.prog W 0 (fun _ => true) true n 22 [c1] = some y1 := g1
  have hborn : Ctx.born ⟨argBs na, allβ W, W⟩ [i] := fun j hj => by
    simp at hj; subst hj
    show argBs na j ≠ _
    unfold argBs
    rw [if_pos hi]
    simp
  rcases open_ints Tryz.underlying22 Tryz.underlying33 oneU32 g1' with ⟨hc, _⟩ | ⟨a, len, cap, zs, hc, _, hlen, hcap, hzl, hy, hcell, hwf⟩
  · cases hc
    refine ⟨s, [], e, ?_⟩
    simp only [V]
    refine ⟨[.bool s, .slice none 0 0, .int .i64 e], rfl, ?_⟩
    simp only [Vs, V]
    exact ⟨trivial, ⟨hborn, ⟨by simp, by simp⟩, none, 0, rfl, fun _ => .inl ⟨rfl, rfl⟩⟩, ⟨trivial, he⟩, trivial⟩
  · cases hc
    simp only [if_true] at hzl
    have hspot : a.spot = none ∧ ∃ cells T fr, W.heap[a.block]? = some (.cells cells T fr) := by
      simp only [Cell.okWide, Cell.ok, Tryz.underlying22] at k1
      obtain ⟨_, _, h3⟩ := k1
      unfold World.has at h3
      obtain ⟨_, h4, row, cells, h5, _⟩ := h3
      refine ⟨h4, ?_⟩
      unfold World.shape? at h5
      split at h5
      · rename_i c el fr hh
        exact ⟨c, el, fr, hh⟩
      · cases h5
    obtain ⟨hsp, cells, T, fr, hheap⟩ := hspot
    obtain ⟨b, off, sp⟩ := a
    simp only at hsp hheap
    subst hsp
    have hwz : ∀ z ∈ zs, 0 ≤ z ∧ z < 4294967296 := fun z hz => by
      have := hwf z hz
      simp only [Lit.wf, Bool.and_eq_true, decide_eq_true_eq] at this
      exact range_u32 this
    have hll : ((zs.take len).map Int.toNat).length = len := by simp; omega
    refine ⟨s, (zs.take len).map Int.toNat, e, ?_⟩
    simp only [V]
    refine ⟨[.bool s, .slice (some ⟨b, off, none⟩) len cap, .int .i64 e], rfl, ?_⟩
    simp only [Vs, V]
    refine ⟨trivial, ⟨hborn, ⟨?_, fun x hx => ?_⟩, some ⟨b, off, none⟩, cap, by rw [hll], fun _ => .inr ⟨b, off, cells, T, fr, rfl, ⟨i, by simp, ?_⟩, hheap, by omega, fun j hj => ?_, fun j x hj => ?_⟩⟩, ⟨trivial, he⟩, trivial⟩
    · rw [hll]
      have hw : (((lits .u32 (zs.take len) : List (DataW H)).length + (lits .u32 (zs.drop len) : List (DataW H)).length) * 4) ≤ reachBytes := by
        refine weights_part hsz ht hdj ?_
        have hy1 := congrArg Prod.fst hy
        simp only at hy1
        simp only [DataW.weights, Tryz.underlying24, DataW.weightsEach, hy1, Tryz.underlying22, bytesU32, List.map_cons, List.map_nil]
        simp
      have := reachBytes_lt
      simp [lits] at hw
      omega
    · simp only [List.mem_map] at hx
      obtain ⟨z, hz, rfl⟩ := hx
      have := hwz z (List.mem_of_mem_take hz)
      omega
    · exact (Array.getElem?_eq_some_iff.1 hheap).1
    · have hc := hcell j (by omega)
      rw [add_none, cell?_of_block hheap] at hc
      exact (Array.getElem?_eq_some_iff.1 hc).1
    · have hjl : j < len := by
        have := (List.getElem?_eq_some_iff.1 hj).1
        omega
      have hc := hcell j (by omega)
      rw [add_none, cell?_of_block hheap] at hc
      rw [hc]
      simp only [List.getElem?_map, List.getElem?_take, if_pos hjl] at hj
      obtain ⟨z, hz, rfl⟩ := Option.map_eq_some_iff.1 hj
      have := hwz z (List.mem_of_getElem? hz)
      simp only [List.getD_eq_getElem?_getD, hz, Option.getD_some]
      congr 2
      omega
end Go.AI
