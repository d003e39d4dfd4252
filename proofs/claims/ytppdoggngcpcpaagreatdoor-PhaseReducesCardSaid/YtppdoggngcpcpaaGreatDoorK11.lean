/- My texts AIdquo, AIdquo2, AIspecR, in one. -/
import Derived.Test.YtppdoggngcpcpaaGreatDoorK10
namespace Go.Dy
theorem lenN_may {a : List Nat} (h : may a = true) : lenN a = bl (val a) := by unfold lenN; rw [if_pos h]
theorem shiftN_off {a : List Nat} (h : may a = true) (n : Nat) : (shiftN a (-(n : Int))).lost = decide (val a % 2 ^ n ≠ 0) := by
 by_cases h0 : val a = 0
 ·unfold shiftN
  rw [if_pos h, if_pos h0, h0, Nat.zero_mod]
  rfl
 ·by_cases hn : 0 < n
  ·exact shiftN_lost h n h0 hn
  ·have hn0 : n = 0 := by omega
   subst hn0
   have hb := may_bl h
   unfold shiftN
   rw [if_pos h, if_neg h0, if_neg (by omega), if_neg (by omega), Nat.pow_zero, Nat.mod_one]
   rfl
theorem dg_len_dec (n : Nat) : decide (((dg n).length : Int) > 0) = decide (n ≠ 0) := by
 rw [decide_eq_decide]
 constructor
 ·intro h e
  rw [e, dg_zero] at h
  exact absurd h (by decide)
 ·intro h
  have : dg n ≠ [] := fun e => h (dg_eq_nil.1 e)
  have := List.length_pos_iff.2 this
  omega
theorem form_dg {s : Bool} {n : Nat} {e : Int} : dg (val (form s n e).mag) = (form s n e).mag ∧ tz (val (form s n e).mag) = 0 ∧ bl (val (form s n e).mag) ≤ bl n ∧ min e 0 ≤ (form s n e).exp ∧ (form s n e).exp ≤ max 0 (e + bl n) := by
 by_cases h : n = 0
 ·subst h
  rw [form_zero]
  refine ⟨rfl, rfl, Nat.le_refl _, ?_, ?_⟩
  ·show min e 0 ≤ 0; omega
  ·show 0 ≤ max 0 _; omega
 ·rw [form_pos h]
  simp only [val_dg]
  have := tz_lt_bl h
  exact ⟨trivial, tz_odd (div_tz_odd h), bl_mono (Nat.div_le_self _ _), by omega, by omega⟩
end Go.Dy
namespace Go.AI
open Go Go.RowKit Go.Proofs
set_option linter.unusedVariables false
set_option maxRecDepth 100000
set_option maxHeartbeats 1000000
theorem ok_ref2_CutW (args : List AV) (s : Spec) (h : rCutW args = some s) (hp : andO s.pre True) : Contract Tryz.prog Inv 39 args s.res := by
 unfold rCutW at h
 split at h
 ·cases h
  rename_i s m e b
  obtain ⟨⟨hc, n1, hz, x1, x2, hb1⟩, -⟩ := hp
  refine contract0 true ok_tab19 Tryz.func39 (by kernel_rfl) (by kernel_rfl) fun hok => ?_
  have h5 := (oks_d hok).2.2
  have hn := range_i64 (oks1_num h5).1
  have b1 : Dy.bl (Dy.val m) ≤ 131072 := Dy.len_bl.1 (by rw [hc]; exact n1)
  rw [vc_ref2_Cut, wrap_i64 (n := (Dy.bl (Dy.val m) : Int) - b) (by omega) (by omega)]
  unfold Dy.cutR Dy.headD Dy.overD
  simp only
  refine ⟨⟨hc, by omega⟩, cond_i (fun h => ?_) (fun h => ?_)⟩
  ·have h := of_decide_eq_true h
   rw [if_pos h]
   rfl
  ·have h := of_decide_eq_false h
   rw [if_neg h]
   have hv : Dy.val m ≠ 0 := fun e0 => by rw [e0, Dy.bl_zero] at h; omega
   obtain ⟨n, hn'⟩ : ∃ n : Nat, (Dy.bl (Dy.val m) : Int) - b = n := ⟨((Dy.bl (Dy.val m) : Int) - b).toNat, by omega⟩
   rw [hn'] at h ⊢
   rw [wrap_i64 (by omega) (by omega), Int.toNat_natCast, hz, decide_eq_true (show Dy.val m ≠ 0 ∧ ((0 : Nat) : Int) < (n : Int) from ⟨hv, by omega⟩)]
   refine ⟨⟨hc, by omega, by omega⟩, ?_⟩
   rintro _ rfl _ rfl
   rw [Dy.val_dg]
   have hb2 : Dy.bl (Dy.val m / 2 ^ n) ≤ 131072 := by rw [Dy.bl_div_two_pow]; omega
   refine ⟨⟨rfl, Dy.dg_len (by omega), by omega, by omega⟩, ?_⟩
   rintro _ rfl _ rfl _ rfl
   rfl
 ·cases h
theorem ok_dyad_made (args : List AV) (s : Spec) (h : dMade args = some s) (hp : andO s.pre True) : Contract Tryz.prog Inv 117 args s.res := by
 unfold dMade at h
 split at h
 ·cases h
  rename_i s q e more k
  obtain ⟨⟨hm, x1, x2, hk1, hk2⟩, -⟩ := hp
  refine contract0 false ok_tabE2 Tryz.func117 (by kernel_rfl) (by kernel_rfl) fun hok => ?_
  have hb := Dy.may_bl hm
  rw [vc_dyad_made, Dy.lenN_may hm]
  unfold Dy.madeD
  obtain ⟨t, ht⟩ : ∃ t : Nat, ((Dy.bl (Dy.val q) : Int) - k).toNat = t := ⟨_, rfl⟩
  have e1 : (if IntKind.i64.wrap ((Dy.bl (Dy.val q) : Int) - k) > 0 then IntKind.i64.wrap ((Dy.bl (Dy.val q) : Int) - k) else 0) = (t : Int) := by
   rw [wrap_i64 (by omega) (by omega)]
   split <;> omega
  rw [e1, ht, wrap_i64 (n := (0 : Int) - t) (by omega) (by omega), Int.zero_sub, wrap_i64 (n := e + t) (by omega) (by omega), Dy.shiftN_neg hm, Dy.shiftN_off hm]
  rintro _ rfl _ rfl _ -
  have hq : Dy.bl (Dy.val q / 2 ^ t) ≤ 131072 := by rw [Dy.bl_div_two_pow]; omega
  rw [Dy.makeD_dg hq]
  rintro _ rfl _ rfl _ rfl _ rfl
  refine cond_i (fun h1 => ?_) (fun h1 => ?_)
  ·simp only [Bool.not_eq_true', decide_eq_false_iff_not] at h1
   rw [if_neg h1]
   rfl
  ·simp only [Bool.not_eq_false', decide_eq_true_eq] at h1
   rw [if_pos h1]
   refine cond_i (fun h2 => ?_) (fun h2 => ?_)
   ·rw [h2]; rfl
   ·rw [h2]; rfl
 ·cases h
theorem ok_tabF0 : PhiOk Tryz.prog Inv (look tabF0) := look_cons (look_cons ok_tabE2 ok_dyad_made) ok_ref2_CutW
theorem ok_dyad_Quo (args : List AV) (s : Spec) (h : dQuo args = some s) (hp : andO s.pre True) : Contract Tryz.prog Inv 103 args s.res := by
 unfold dQuo at h
 split at h
 ·cases h
  rename_i s m e s' m' e' k
  obtain ⟨⟨hl, hl'⟩, -⟩ := hp
  refine contract0 false ok_tabF0 Tryz.func103 (by kernel_rfl) (by kernel_rfl) fun hok => ?_
  rw [vc_dyad_Quo]
  unfold Dy.quoD
  simp only
  refine cond_i (fun h => ?_) (fun h => ?_)
  ·simp only [Bool.not_eq_true'] at h
   rw [h]; rfl
  simp only [Bool.not_eq_false'] at h
  rw [h]
  simp only [Bool.true_and]
  obtain ⟨hd, hd'⟩ := (Bool.and_eq_true _ _ ▸ h : _ ∧ _)
  refine cond_i (fun h1 => ?_) (fun h1 => ?_)
  ·have h1 := of_decide_eq_true h1
   rw [if_neg (by rw [decide_eq_true_eq]; omega)]
   rfl
  have h1 := of_decide_eq_false h1
  rw [if_pos (decide_eq_true (by omega))]
  refine cond_i (fun h2 => ?_) (fun h2 => ?_)
  ·simp only [Bool.not_eq_true', decide_eq_false_iff_not] at h2
   unfold Dy.askD at h2 ⊢
   rw [if_neg h1] at h2 ⊢
   by_cases c : 8192 < k
   ·rw [if_pos c, if_neg (by omega)]; rfl
   ·rw [if_neg c] at h2; exact absurd rfl h2
  simp only [Bool.not_eq_false', decide_eq_true_eq] at h2
  have hk : k ≤ 8192 := by
   unfold Dy.askD at h2
   rw [if_neg h1] at h2
   by_cases c : 8192 < k
   ·rw [if_pos c] at h2; exact absurd h2 (by decide)
   ·omega
  rw [if_pos hk]
  refine cond_i (fun h3 => ?_) (fun h3 => cond_i (fun h4 => ?_) (fun h4 => ?_))
  ·have h3 := List.length_eq_zero_iff.1 (Int.ofNat_eq_zero.1 (of_decide_eq_true h3))
   rw [if_pos h3]; rfl
  ·have h3 := of_decide_eq_false h3
   have h4 := List.length_eq_zero_iff.1 (Int.ofNat_eq_zero.1 (of_decide_eq_true h4))
   rw [if_neg (fun e => h3 (by rw [e]; rfl)), if_pos h4]; rfl
  ·have h3 := of_decide_eq_false h3
   have h4 := of_decide_eq_false h4
   have m0' : m' ≠ [] := fun e => h3 (by rw [e]; rfl)
   have m0 : m ≠ [] := fun e => h4 (by rw [e]; rfl)
   rw [if_neg m0', if_neg m0]
   have may1 := Dy.mayD_may hd
   have may2 := Dy.mayD_may hd'
   have x1 := Dy.mayD_exp hd
   have x2 := Dy.mayD_exp hd'
   have v2 := Dy.val_ne may2 m0'
   have b1 : Dy.bl (Dy.val m) ≤ 32000 := (Dy.length_dg_bl (n := Dy.val m) (k := 1000)).1 (by rw [Dy.may_dg may1]; exact hl)
   have b2 : Dy.bl (Dy.val m') ≤ 32000 := (Dy.length_dg_bl (n := Dy.val m') (k := 1000)).1 (by rw [Dy.may_dg may2]; exact hl')
   rw [Dy.lenN_may may1, Dy.lenN_may may2]
   have hqs : Dy.quoS (Dy.val m) (Dy.val m') k = (k + 1 + (Dy.bl (Dy.val m') : Int) - (Dy.bl (Dy.val m) : Int)).toNat := rfl
   generalize Dy.quoS (Dy.val m) (Dy.val m') k = n at hqs ⊢
   have e1 : (if IntKind.i64.wrap (IntKind.i64.wrap (IntKind.i64.wrap (k + 1) + (Dy.bl (Dy.val m') : Int)) - (Dy.bl (Dy.val m) : Int)) > 0 then IntKind.i64.wrap (IntKind.i64.wrap (IntKind.i64.wrap (k + 1) + (Dy.bl (Dy.val m') : Int)) - (Dy.bl (Dy.val m) : Int)) else 0) = (n : Int) := by
    rw [wrap_i64 (n := k + 1) (by omega) (by omega), wrap_i64 (n := k + 1 + _) (by omega) (by omega), wrap_i64 (by omega) (by omega)]
    split <;> omega
   rw [e1, wrap_i64 (n := (131072 : Int) - _) (by omega) (by omega), wrap_i64 (n := e - e') (by omega) (by omega), wrap_i64 (n := e - e' - _) (by omega) (by omega), Dy.shiftN_up may1 n (by omega)]
   refine cond_f (decide_eq_false (by omega)) ?_
   rintro _ rfl _ - _ -
   have hX : Dy.bl (Dy.val m * 2 ^ n) ≤ 131072 := Nat.le_trans (Dy.bl_mul_le b1) (by omega)
   have may3 : Dy.may (Dy.dg (Dy.val m * 2 ^ n)) = true := Dy.may_dgn.2 (Dy.len_bl.2 hX)
   have hq : Dy.quoR (Dy.dg (Dy.val m * 2 ^ n)) m' = ⟨Dy.dg (Dy.val m * 2 ^ n / Dy.val m'), Dy.dg (Dy.val m * 2 ^ n % Dy.val m'), 0⟩ := by
    unfold Dy.quoR
    rw [may3, may2, if_pos (show (true && true) = true from rfl), if_neg v2, Dy.val_dg]
   rw [hq]
   have hQ : Dy.bl (Dy.val m * 2 ^ n / Dy.val m') ≤ 131072 := Nat.le_trans (Dy.bl_mono (Nat.div_le_self _ _)) hX
   rintro _ rfl _ rfl _ -
   refine ⟨⟨Dy.may_dgn.2 (Dy.len_bl.2 hQ), by omega, by omega, by omega, hk⟩, ?_⟩
   rw [Dy.val_dg, Dy.dg_len_dec]
   rintro _ rfl _ rfl _ rfl _ rfl _ rfl
   rfl
 ·cases h
theorem form_tail {q : Nat} {neg x : Bool} {u k : Int} (hq : Dy.bl q ≤ 131072) (hu : -100000000 ≤ u ∧ u ≤ 100000000) (hk : 1 ≤ k) {Q : AV → Prop} (hQ : Q (.tup [avD [0] (Dy.cutR (Dy.form neg q u) k).1, .bool ((Dy.cutR (Dy.form neg q u) k).2 || x)])) :
  (Dy.dg (Dy.val (Dy.dg q)) = Dy.dg q ∧ (Dy.dg q).length ≤ 1048576 ∧ -1099511627776 ≤ u ∧ u ≤ 1099511627776) ∧
  ∀ b3, b3 = (Dy.form neg (Dy.val (Dy.dg q)) u).neg → ∀ l4, l4 = (Dy.form neg (Dy.val (Dy.dg q)) u).mag → ∀ n5, n5 = (Dy.form neg (Dy.val (Dy.dg q)) u).exp →
   (Dy.dg (Dy.val l4) = l4 ∧ l4.length ≤ 4096 ∧ Dy.tz (Dy.val l4) = 0 ∧ -1099511627776 ≤ n5 ∧ n5 + 131072 ≤ 1099511627776 ∧ 1 ≤ k) ∧
   ∀ b6, b6 = (Dy.cutR (Dy.Dyd.mk b3 l4 n5) k).1.neg → ∀ l7, l7 = (Dy.cutR (Dy.Dyd.mk b3 l4 n5) k).1.mag → ∀ n8, n8 = (Dy.cutR (Dy.Dyd.mk b3 l4 n5) k).1.exp → ∀ b9, b9 = (Dy.cutR (Dy.Dyd.mk b3 l4 n5) k).snd →
    bif b9 then Q (.tup [.agg [.bool b6, .dig [0] l7, .num .i64 n8], .bool true]) else Q (.tup [.agg [.bool b6, .dig [0] l7, .num .i64 n8], .bool x]) := by
 refine ⟨⟨by rw [Dy.val_dg], Dy.dg_len (by omega), by omega, by omega⟩, ?_⟩
 rw [Dy.val_dg]
 obtain ⟨f1, f2, f3, f4, f5⟩ := Dy.form_dg (s := neg) (n := q) (e := u)
 rintro _ rfl _ rfl _ rfl
 have hl : (Dy.form neg q u).mag.length ≤ 4096 := by
  rw [← f1]
  exact Dy.len_bl.2 (by omega)
 refine ⟨⟨f1, hl, f2, by omega, by omega, hk⟩, ?_⟩
 rintro _ rfl _ rfl _ rfl _ rfl
 refine cond_i (fun c => ?_) (fun c => ?_)
 ·have c : (Dy.cutR (Dy.form neg q u) k).2 = true := c
  rw [c] at hQ
  exact hQ
 ·have c : (Dy.cutR (Dy.form neg q u) k).2 = false := c
  rw [c] at hQ
  exact hQ
theorem rquo_tail {N : Nat} {m' : List Nat} {neg : Bool} {u k : Int} (hm : Dy.may m' = true) (h0 : m' ≠ []) (hN : Dy.bl N ≤ 131072) (hu : -100000000 ≤ u ∧ u ≤ 100000000) (hk : 1 ≤ k)
  {Q : AV → Prop} (hQ : Q (.tup [avD [0] (Dy.cutR (Dy.form neg (N / Dy.val m') u) k).1, .bool ((Dy.cutR (Dy.form neg (N / Dy.val m') u) k).2 || decide (N % Dy.val m' ≠ 0))])) :
  (Dy.dg (Dy.val (Dy.dg N)) = Dy.dg N ∧ Dy.dg (Dy.val m') = m' ∧ m' ≠ [] ∧ (Dy.dg N).length ≤ 100000 ∧ m'.length ≤ 100000) ∧
  ∀ l1, l1 = Dy.dg (Dy.val (Dy.dg N) / Dy.val m') → ∀ l2, l2 = Dy.dg (Dy.val (Dy.dg N) % Dy.val m') →
  (Dy.dg (Dy.val l1) = l1 ∧ l1.length ≤ 1048576 ∧ -1099511627776 ≤ u ∧ u ≤ 1099511627776) ∧
  ∀ b3, b3 = (Dy.form neg (Dy.val l1) u).neg → ∀ l4, l4 = (Dy.form neg (Dy.val l1) u).mag → ∀ n5, n5 = (Dy.form neg (Dy.val l1) u).exp →
   (Dy.dg (Dy.val l4) = l4 ∧ l4.length ≤ 4096 ∧ Dy.tz (Dy.val l4) = 0 ∧ -1099511627776 ≤ n5 ∧ n5 + 131072 ≤ 1099511627776 ∧ 1 ≤ k) ∧
   ∀ b6, b6 = (Dy.cutR (Dy.Dyd.mk b3 l4 n5) k).1.neg → ∀ l7, l7 = (Dy.cutR (Dy.Dyd.mk b3 l4 n5) k).1.mag → ∀ n8, n8 = (Dy.cutR (Dy.Dyd.mk b3 l4 n5) k).1.exp → ∀ b9, b9 = (Dy.cutR (Dy.Dyd.mk b3 l4 n5) k).snd →
    bif b9 then Q (.tup [.agg [.bool b6, .dig [0] l7, .num .i64 n8], .bool true]) else Q (.tup [.agg [.bool b6, .dig [0] l7, .num .i64 n8], .bool (decide ((l2.length : Int) > 0))]) := by
 refine ⟨⟨by rw [Dy.val_dg], Dy.may_dg hm, h0, ?_, by have := Dy.may_len hm; omega⟩, ?_⟩
 ·have := Dy.len_bl.2 hN; omega
 rw [Dy.val_dg]
 rintro _ rfl _ rfl
 rw [Dy.dg_len_dec]
 exact form_tail (Nat.le_trans (Dy.bl_mono (Nat.div_le_self _ _)) hN) hu hk hQ
theorem ok_ref2_Quo (args : List AV) (s : Spec) (h : rQuoD args = some s) (hp : andO s.pre True) : Contract Tryz.prog Inv 16 args s.res := by
 unfold rQuoD at h
 split at h
 ·cases h
  rename_i s m e s' m' e' k
  obtain ⟨⟨hd, hd', m0', hk1, hk, hl, hl'⟩, -⟩ := hp
  refine contract0 false ok_tabF0 Tryz.func16 (by kernel_rfl) (by kernel_rfl) fun hok => ?_
  rw [vc_ref2_Quo]
  unfold Dy.quoF
  simp only
  have may1 := Dy.mayD_may hd
  have may2 := Dy.mayD_may hd'
  have x1 := Dy.mayD_exp hd
  have x2 := Dy.mayD_exp hd'
  have b1 : Dy.bl (Dy.val m) ≤ 32000 := (Dy.length_dg_bl (n := Dy.val m) (k := 1000)).1 (by rw [Dy.may_dg may1]; exact hl)
  have b2 : Dy.bl (Dy.val m') ≤ 32000 := (Dy.length_dg_bl (n := Dy.val m') (k := 1000)).1 (by rw [Dy.may_dg may2]; exact hl')
  refine cond_i (fun h3 => ?_) (fun h3 => ?_)
  ·have h3 := List.length_eq_zero_iff.1 (Int.ofNat_eq_zero.1 (of_decide_eq_true h3))
   rw [if_pos h3]; rfl
  have h3 := of_decide_eq_false h3
  have m0 : m ≠ [] := fun e => h3 (by rw [e]; rfl)
  rw [if_neg m0]
  have hqs : Dy.quoS (Dy.val m) (Dy.val m') k = (k + 1 + (Dy.bl (Dy.val m') : Int) - (Dy.bl (Dy.val m) : Int)).toNat := rfl
  generalize Dy.quoS (Dy.val m) (Dy.val m') k = n at hqs ⊢
  have w1 : IntKind.i64.wrap (IntKind.i64.wrap (IntKind.i64.wrap (k + 1) + (Dy.bl (Dy.val m') : Int)) - (Dy.bl (Dy.val m) : Int)) = k + 1 + (Dy.bl (Dy.val m') : Int) - (Dy.bl (Dy.val m) : Int) := by
   rw [wrap_i64 (n := k + 1) (by omega) (by omega), wrap_i64 (n := k + 1 + _) (by omega) (by omega), wrap_i64 (by omega) (by omega)]
  have hX : Dy.bl (Dy.val m * 2 ^ n) ≤ 131072 := Nat.le_trans (Dy.bl_mul_le b1) (by omega)
  rw [w1, wrap_i64 (n := e - e') (by omega) (by omega)]
  refine ⟨⟨Dy.may_dg may2, by omega⟩, ⟨Dy.may_dg may1, by omega⟩, cond_i (fun h4 => ?_) (fun h4 => ?_)⟩
  ·have h4 := of_decide_eq_true h4
   have hn : n = 0 := by omega
   subst hn
   refine ⟨⟨by omega, by omega, by omega⟩, ?_⟩
   rw [wrap_i64 (n := e - e' - 0) (by omega) (by omega)]
   exact rquo_tail (Q := fun r => r = _) (u := e - e' - 0) may2 m0' hX (by omega) hk1 rfl
  ·have h4 := of_decide_eq_false h4
   have hn : k + 1 + (Dy.bl (Dy.val m') : Int) - (Dy.bl (Dy.val m) : Int) = (n : Int) := by omega
   rw [hn, Int.toNat_natCast, wrap_i64 (n := e - e' - _) (by omega) (by omega)]
   refine ⟨⟨by omega, by omega, by omega⟩, ?_⟩
   exact rquo_tail (Q := fun r => r = _) (u := e - e' - n) may2 m0' hX (by omega) hk1 rfl
 ·cases h
theorem ok_tabF : PhiOk Tryz.prog Inv (look tabF) := look_cons (look_cons (ok_tabF0) ok_ref2_Quo) ok_dyad_Quo
end Go.AI

namespace Go.Dy
theorem form_cut {s : Bool} {q : Nat} {e : Int} {t : Nat} (h : q % 2 ^ t = 0) : form s (q / 2 ^ t) (e + t) = form s q e := by
 rw [← form_mul, Nat.div_mul_cancel (Nat.dvd_of_mod_eq_zero h)]
theorem cutR_form (s : Bool) (q : Nat) (e k : Int) (hk : 1 ≤ k) :
  cutR (form s q e) k = (form s (q / 2 ^ ((bl q : Int) - k).toNat) (e + (((bl q : Int) - k).toNat : Int)), decide (q % 2 ^ ((bl q : Int) - k).toNat ≠ 0)) := by
 generalize ht : ((bl q : Int) - k).toNat = t
 by_cases h0 : q = 0
 ·subst h0
  rw [Nat.zero_div, Nat.zero_mod, form_zero, form_zero]
  unfold cutR overD
  rw [if_pos (by show (0 : Int) - k ≤ 0; omega)]
  rfl
 ·have hz := tz_lt_bl h0
  have hb : bl (q / 2 ^ tz q) = bl q - tz q := bl_div_two_pow q (tz q)
  have hd := dvd_iff_le_tz h0 t
  have ho : overD (form s q e) k = (bl q : Int) - tz q - k := by
   rw [form_pos h0]
   unfold overD
   simp only [val_dg]
   rw [hb]
   omega
  unfold cutR
  by_cases c : t ≤ tz q
  ·rw [if_pos (by omega), form_cut (hd.2 c), decide_eq_false (by simpa using hd.2 c)]
  ·rw [if_neg (by omega), decide_eq_true (show q % 2 ^ t ≠ 0 from fun h => c (hd.1 h))]
   congr 1
   unfold headD
   rw [ho, form_pos h0]
   simp only [val_dg]
   have : ((bl q : Int) - tz q - k).toNat = t - tz q := by omega
   rw [this, Nat.div_div_eq_div_mul, ← Nat.pow_add, show tz q + (t - tz q) = t by omega, show e + (tz q : Int) + ((bl q : Int) - tz q - k) = e + (t : Int) by omega]
theorem madeD_eq (s : Bool) (q : Nat) (e : Int) (more : Bool) (k : Int) (hk1 : 1 ≤ k) (hk : k ≤ 8192) :
  madeD s q e more k = if inside (cutR (form s q e) k).1.exp then ⟨(cutR (form s q e) k).1, (cutR (form s q e) k).2 || more, 0⟩ else ⟨zeroD, false, 20⟩ := by
 rw [cutR_form s q e k hk1]
 unfold madeD
 generalize ht : ((bl q : Int) - k).toNat = t
 have hb : bl (q / 2 ^ t) ≤ 131072 := by rw [bl_div_two_pow]; omega
 obtain ⟨f1, f2, f3, f4, f5⟩ := form_dg (s := s) (n := q / 2 ^ t) (e := e + t)
 have hl : (form s (q / 2 ^ t) (e + t)).mag.length ≤ 4096 := by
  rw [← f1]
  exact len_bl.2 (by omega)
 have hB : boundD (form s (q / 2 ^ t) (e + t)) = if inside (form s (q / 2 ^ t) (e + t)).exp then (form s (q / 2 ^ t) (e + t), 0) else (zeroD, 20) := by
  unfold boundD
  rw [if_pos hl]
 rw [hB]
 simp only
 cases inside (form s (q / 2 ^ t) (e + t)).exp with
 | true => simp
 | false => simp
theorem quoD_eq {a b : Dyd} {k : Int} (ha : mayD a = true) (hb : mayD b = true) (h0 : b.mag ≠ []) (hk1 : 1 ≤ k) (hk : k ≤ 8192) :
  quoD a b k = if inside (quoF a b k).1.exp then ⟨(quoF a b k).1, (quoF a b k).2, 0⟩ else ⟨zeroD, false, 20⟩ := by
 unfold quoD quoF
 rw [ha, hb, if_pos (by simpa using hk1), if_pos hk, if_neg h0]
 by_cases c : a.mag = []
 ·rw [if_pos c, if_pos c]
  rfl
 ·rw [if_neg c, if_neg c, madeD_eq _ _ _ _ _ hk1 hk]
end Go.Dy

namespace Go.Dy
def unitOf (e : Int) : Dyd := ⟨false, [1], e⟩
def subD (a b : Dyd) : Dyd := addD a (negD b)
def stepD (q : Dyd) (lost high neg : Bool) (u : Int) : Dyd := if (lost && (neg != high)) = true then (if high = true then addD q (unitOf u) else subD q (unitOf u)) else q
def endD (d : Dyd) (n : Int) (high : Bool) : Dyd := stepD (cutR d n).1 (cutR d n).2 high d.neg (topD d - n)
def quoE (a b : Dyd) (n : Int) (high : Bool) : Dyd := stepD (quoF a b n).1 (quoF a b n).2 high (quoF a b n).1.neg (topD (quoF a b n).1 - n)
def mid (d : Dyd) : Prop := mayD d = true ∧ -1000000 ≤ d.exp ∧ d.exp ≤ 1000000
def shD (d : Dyd) (k : Int) : Dyd := if d.mag = [] then zeroD else ⟨d.neg, d.mag, d.exp + k⟩
def minD (a b : Dyd) : Dyd := if cmpD b a < 0 then b else a
def maxD (a b : Dyd) : Dyd := if cmpD a b < 0 then b else a
def min4 (a b c d : Dyd) : Dyd := minD (minD (minD a b) c) d
def max4 (a b c d : Dyd) : Dyd := maxD (maxD (maxD a b) c) d
def signS (lo hi : Dyd) : Int := if signD lo = signD hi then signD lo else 0
structure Arc where
 plus : Nat
 minus : Nat
 terms : Nat
 next : Nat
def arcF (kk : Nat) : Nat → Nat → Nat → Nat → Nat → Nat → Arc
 | 0, _, p, m, t, i => ⟨p, m, t, i⟩
 | f + 1, x, p, m, t, i => if x = 0 then ⟨p, m, t, i⟩ else if i % 4 = 3 then arcF kk f (x / kk) p (m + x / i) (t + 1) (i + 2) else arcF kk f (x / kk) (p + x / i) m (t + 1) (i + 2)
def arcA (b n : Nat) : Arc := arcF (n * n) (bl (2 ^ b / n)) (2 ^ b / n) 0 0 0 1
def arcV (b n : Nat) : Nat := (arcA b n).plus - (arcA b n).minus
def arcT (b n : Nat) : Nat := (arcA b n).terms
end Go.Dy
namespace Go.AI
open Go Go.RowKit Go.Proofs
set_option linter.unusedVariables false
def dyF (x : Dy.Dyd) (P : Bool → List Nat → Int → Prop) : Prop := ∀ b, b = x.neg → ∀ l, l = x.mag → ∀ n, n = x.exp → P b l n
def avS (p : List Nat) (a b : Dy.Dyd) : AV := .agg [.bool a.neg, .dig p a.mag, .num .i64 a.exp, .bool b.neg, .dig p b.mag, .num .i64 b.exp]
def sPowerS : List AV → Option Spec
 | [.num .i64 n] => some ⟨none, avD [0] (Dy.unitOf n)⟩
 | _ => none
def sOfS : List AV → Option Spec
 | [.agg [.bool s, .dig [1] m, .num .i64 e]] => some ⟨none, avS [0, 1] ⟨s, m, e⟩ ⟨s, m, e⟩⟩
 | _ => none
def sAddS : List AV → Option Spec
 | [.agg [.bool s, .dig [1] m, .num .i64 e], .agg [.bool s', .dig [2] m', .num .i64 e']] =>
  some ⟨some (Dy.mayD ⟨s, m, e⟩ = true ∧ Dy.mayD ⟨s', m', e'⟩ = true ∧ Dy.mayD (Dy.addD ⟨s, m, e⟩ ⟨s', m', e'⟩) = true), avD [0] (Dy.addD ⟨s, m, e⟩ ⟨s', m', e'⟩)⟩
 | _ => none
def sSubS : List AV → Option Spec
 | [.agg [.bool s, .dig [1] m, .num .i64 e], .agg [.bool s', .dig [2] m', .num .i64 e']] =>
  some ⟨some (Dy.mayD ⟨s, m, e⟩ = true ∧ Dy.mayD ⟨s', m', e'⟩ = true ∧ Dy.mayD (Dy.subD ⟨s, m, e⟩ ⟨s', m', e'⟩) = true), avD [0] (Dy.subD ⟨s, m, e⟩ ⟨s', m', e'⟩)⟩
 | _ => none
def sMulS : List AV → Option Spec
 | [.agg [.bool s, .dig [1] m, .num .i64 e], .agg [.bool s', .dig [2] m', .num .i64 e']] =>
  some ⟨some (Dy.mayD ⟨s, m, e⟩ = true ∧ Dy.mayD ⟨s', m', e'⟩ = true ∧ Dy.mayD (Dy.mulD ⟨s, m, e⟩ ⟨s', m', e'⟩) = true), avD [0] (Dy.mulD ⟨s, m, e⟩ ⟨s', m', e'⟩)⟩
 | _ => none
def sLessS : List AV → Option Spec
 | [.agg [.bool s, .dig [1] m, .num .i64 e], .agg [.bool s', .dig [2] m', .num .i64 e']] =>
  some ⟨some (Dy.mayD ⟨s, m, e⟩ = true ∧ Dy.mayD ⟨s', m', e'⟩ = true), .bool (decide (Dy.cmpD ⟨s, m, e⟩ ⟨s', m', e'⟩ < 0))⟩
 | _ => none
def sEndS : List AV → Option Spec
 | [.num .i64 n, .agg [.bool s, .dig [2] m, .num .i64 e], .bool high] =>
  some ⟨some (Dy.mid ⟨s, m, e⟩ ∧ 1 ≤ n ∧ n ≤ 8192), avD [0] (Dy.endD ⟨s, m, e⟩ n high)⟩
 | _ => none
def sQuoS : List AV → Option Spec
 | [.num .i64 n, .agg [.bool s, .dig [2] m, .num .i64 e], .agg [.bool s', .dig [3] m', .num .i64 e'], .bool high] =>
  some ⟨some (Dy.mid ⟨s, m, e⟩ ∧ Dy.mid ⟨s', m', e'⟩ ∧ m' ≠ [] ∧ m.length ≤ 1000 ∧ m'.length ≤ 1000 ∧ 1 ≤ n ∧ n ≤ 8192 ∧ s' = false), avD [0] (Dy.quoE ⟨s, m, e⟩ ⟨s', m', e'⟩ n high)⟩
 | _ => none
def sOutS : List AV → Option Spec
 | [.num .i64 n, .agg [.bool s, .dig [2] m, .num .i64 e], .agg [.bool s', .dig [3] m', .num .i64 e']] =>
  some ⟨some (Dy.mid ⟨s, m, e⟩ ∧ Dy.mid ⟨s', m', e'⟩ ∧ 1 ≤ n ∧ n ≤ 8192), avS [0] (Dy.endD ⟨s, m, e⟩ n false) (Dy.endD ⟨s', m', e'⟩ n true)⟩
 | _ => none
def sNegS : List AV → Option Spec
 | [.agg [.bool s, .dig [1] m, .num .i64 e, .bool s', .dig [1] m', .num .i64 e']] =>
  some ⟨some (Dy.mayD ⟨s, m, e⟩ = true ∧ Dy.mayD ⟨s', m', e'⟩ = true), avS [0] (Dy.negD ⟨s', m', e'⟩) (Dy.negD ⟨s, m, e⟩)⟩
 | _ => none
def sScaleS : List AV → Option Spec
 | [.agg [.bool s, .dig [1] m, .num .i64 e, .bool s', .dig [1] m', .num .i64 e'], .num .i64 k] =>
  some ⟨some (Dy.mid ⟨s, m, e⟩ ∧ Dy.mid ⟨s', m', e'⟩ ∧ -1000000 ≤ k ∧ k ≤ 1000000), avS [0] (Dy.shD ⟨s, m, e⟩ k) (Dy.shD ⟨s', m', e'⟩ k)⟩
 | _ => none
def sSubSp : List AV → Option Spec
 | [.num .i64 n, .agg [.bool s, .dig [2] m, .num .i64 e, .bool s', .dig [2] m', .num .i64 e'], .agg [.bool t, .dig [3] l, .num .i64 f, .bool t', .dig [3] l', .num .i64 f']] =>
  some ⟨some (Dy.mayD ⟨s, m, e⟩ = true ∧ Dy.mayD ⟨s', m', e'⟩ = true ∧ Dy.mayD ⟨t, l, f⟩ = true ∧ Dy.mayD ⟨t', l', f'⟩ = true ∧ Dy.mid (Dy.subD ⟨s, m, e⟩ ⟨t', l', f'⟩) ∧ Dy.mid (Dy.subD ⟨s', m', e'⟩ ⟨t, l, f⟩) ∧ 1 ≤ n ∧ n ≤ 8192),
   avS [0] (Dy.endD (Dy.subD ⟨s, m, e⟩ ⟨t', l', f'⟩) n false) (Dy.endD (Dy.subD ⟨s', m', e'⟩ ⟨t, l, f⟩) n true)⟩
 | _ => none
def sMulSp : List AV → Option Spec
 | [.num .i64 n, .agg [.bool s, .dig [2] m, .num .i64 e, .bool s', .dig [2] m', .num .i64 e'], .agg [.bool t, .dig [3] l, .num .i64 f, .bool t', .dig [3] l', .num .i64 f']] =>
  some ⟨some (Dy.mayD ⟨s, m, e⟩ = true ∧ Dy.mayD ⟨s', m', e'⟩ = true ∧ Dy.mayD ⟨t, l, f⟩ = true ∧ Dy.mayD ⟨t', l', f'⟩ = true ∧
    Dy.mid (Dy.mulD ⟨s, m, e⟩ ⟨t, l, f⟩) ∧ Dy.mid (Dy.mulD ⟨s, m, e⟩ ⟨t', l', f'⟩) ∧ Dy.mid (Dy.mulD ⟨s', m', e'⟩ ⟨t, l, f⟩) ∧ Dy.mid (Dy.mulD ⟨s', m', e'⟩ ⟨t', l', f'⟩) ∧ 1 ≤ n ∧ n ≤ 8192),
   avS [0] (Dy.endD (bif !s && !t then Dy.mulD ⟨s, m, e⟩ ⟨t, l, f⟩ else Dy.min4 (Dy.mulD ⟨s, m, e⟩ ⟨t, l, f⟩) (Dy.mulD ⟨s, m, e⟩ ⟨t', l', f'⟩) (Dy.mulD ⟨s', m', e'⟩ ⟨t, l, f⟩) (Dy.mulD ⟨s', m', e'⟩ ⟨t', l', f'⟩)) n false)
    (Dy.endD (bif !s && !t then Dy.mulD ⟨s', m', e'⟩ ⟨t', l', f'⟩ else Dy.max4 (Dy.mulD ⟨s, m, e⟩ ⟨t, l, f⟩) (Dy.mulD ⟨s, m, e⟩ ⟨t', l', f'⟩) (Dy.mulD ⟨s', m', e'⟩ ⟨t, l, f⟩) (Dy.mulD ⟨s', m', e'⟩ ⟨t', l', f'⟩)) n true)⟩
 | _ => none
def sDivSp : List AV → Option Spec
 | [.num .i64 n, .agg [.bool s, .dig [2] m, .num .i64 e, .bool s', .dig [2] m', .num .i64 e'], .agg [.bool t, .dig [3] l, .num .i64 f, .bool t', .dig [3] l', .num .i64 f']] =>
  some ⟨some (Dy.mid ⟨s, m, e⟩ ∧ Dy.mid ⟨s', m', e'⟩ ∧ Dy.mid ⟨t, l, f⟩ ∧ Dy.mid ⟨t', l', f'⟩ ∧ t = false ∧ t' = false ∧ l ≠ [] ∧ l' ≠ [] ∧ m.length ≤ 1000 ∧ m'.length ≤ 1000 ∧ l.length ≤ 1000 ∧ l'.length ≤ 1000 ∧ 1 ≤ n ∧ n ≤ 8192),
   avS [0] (Dy.quoE ⟨s, m, e⟩ (bif s then ⟨t, l, f⟩ else ⟨t', l', f'⟩) n false) (Dy.quoE ⟨s', m', e'⟩ (bif s' then ⟨t', l', f'⟩ else ⟨t, l, f⟩) n true)⟩
 | _ => none
def sNearest : List AV → Option Spec
 | [.agg [.bool s, .dig [1] m, .num .i64 e, .bool s', .dig [1] m', .num .i64 e']] =>
  some ⟨some (Dy.mayD ⟨s, m, e⟩ = true ∧ Dy.mayD ⟨s', m', e'⟩ = true ∧ Dy.mayD (Dy.addD ⟨s, m, e⟩ (Dy.unitOf (-1))) = true ∧ Dy.mayD (Dy.addD ⟨s', m', e'⟩ (Dy.unitOf (-1))) = true ∧ Dy.mayD (Dy.floorD (Dy.addD ⟨s, m, e⟩ (Dy.unitOf (-1)))) = true ∧ Dy.mayD (Dy.floorD (Dy.addD ⟨s', m', e'⟩ (Dy.unitOf (-1)))) = true),
   .tup [avD [0] (Dy.floorD (Dy.addD ⟨s, m, e⟩ (Dy.unitOf (-1)))), .bool (decide (Dy.cmpD (Dy.floorD (Dy.addD ⟨s, m, e⟩ (Dy.unitOf (-1)))) (Dy.floorD (Dy.addD ⟨s', m', e'⟩ (Dy.unitOf (-1)))) = 0))]⟩
 | _ => none
def sSignSp : List AV → Option Spec
 | [.agg [.bool s, .dig [1] m, .num .i64 e, .bool s', .dig [1] m', .num .i64 e']] =>
  some ⟨some (Dy.mayD ⟨s, m, e⟩ = true ∧ Dy.mayD ⟨s', m', e'⟩ = true), .num .i64 (Dy.signS ⟨s, m, e⟩ ⟨s', m', e'⟩)⟩
 | _ => none
def sCutSp : List AV → Option Spec
 | [.agg [.bool s, .dig [1] m, .num .i64 e, .bool s', .dig [1] m', .num .i64 e'], .num .i64 b] =>
  some ⟨some (Dy.mid ⟨s, m, e⟩ ∧ Dy.mid ⟨s', m', e'⟩ ∧ 1 ≤ b ∧ b ≤ 8192),
   .tup [avD [0] (bif decide (Dy.signS ⟨s, m, e⟩ ⟨s', m', e'⟩ = 0) then Dy.zeroD else (Dy.cutR ⟨s, m, e⟩ b).1),
    .bool (!decide (Dy.signS ⟨s, m, e⟩ ⟨s', m', e'⟩ = 0) && decide (Dy.cmpD (Dy.cutR ⟨s, m, e⟩ b).1 (Dy.cutR ⟨s', m', e'⟩ b).1 = 0))]⟩
 | _ => none
def sArc : List AV → Option Spec
 | [.num .i64 n, .num .u64 k] => some ⟨some (20 ≤ n ∧ n ≤ 20000 ∧ (k = 5 ∨ k = 239)), .tup [.dig [0] (Dy.dg (Dy.arcV n.toNat k.toNat)), .num .u64 (2 * Dy.arcT n.toNat k.toNat + 2 : Nat)]⟩
 | _ => none
def sRestS : List AV → Option Spec
 | [.agg [.bool s, .dig [1] m, .num .i64 e]] => some ⟨some (Dy.mayD ⟨s, m, e⟩ = true ∧ 0 ≤ e), .num .i64 (Dy.at_ ⟨s, m, e⟩ 0 % 4)⟩
 | _ => none
def tabR0 : List (Nat × (List AV → Option Spec)) := (86, sPowerS) :: (53, sOfS) :: (82, sAddS) :: (80, sSubS) :: (87, sMulS) :: (88, sLessS) :: tabF
def tabR1 : List (Nat × (List AV → Option Spec)) := (100, sEndS) :: (84, sQuoS) :: tabR0
def tabR2 : List (Nat × (List AV → Option Spec)) := (81, sOutS) :: (61, sSignSp) :: (83, sNegS) :: (54, sScaleS) :: (57, sNearest) :: (58, sRestS) :: (78, sArc) :: tabR1
def tabR3 : List (Nat × (List AV → Option Spec)) := (59, sSubSp) :: (60, sMulSp) :: (56, sDivSp) :: (30, sCutSp) :: tabR2
end Go.AI
