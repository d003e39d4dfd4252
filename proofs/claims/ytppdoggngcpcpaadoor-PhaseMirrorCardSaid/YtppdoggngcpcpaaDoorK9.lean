/- My texts AIlong, AIspecQ, AVquo, AIquo, AIspecE, AVrefq, AIrefq, AIspecF, AVdquo, AIdquo, AIdquo2, AIspecR, in one. -/
import Derived.Test.YtppdoggngcpcpaaDoorK8
namespace Go.Dy
theorem val_putW {L w : List Nat} {lo : Nat} (h : lo + w.length ≤ L.length) : val (putW L lo w) = val (L.take lo) + 2 ^ (32 * lo) * (val w + 2 ^ (32 * w.length) * val (L.drop (lo + w.length))) := by
  unfold putW
  have e : (L.take lo).length = lo := by simp; omega
  rw [List.append_assoc, val_append, val_append, e]
theorem val_win {L : List Nat} (lo n : Nat) (h : lo + n ≤ L.length) : val (L.drop lo) = winV L lo n + 2 ^ (32 * n) * val (L.drop (lo + n)) := by
  unfold winV
  have := val_take_drop (L.drop lo) n (by simp; omega)
  rw [List.drop_drop] at this
  exact this
/-- one digit of a quotient -/
theorem long_step {u q v : List Nat} {j n U : Nat} (hu : digs u) (hv : digs v) (hn : v.length = n) (hq : j < q.length) (hul : j + n + 1 ≤ u.length) (hlt : val u < val v * 2 ^ (32 * (j + 1)))
    (hU : U = val (q.drop (j + 1)) * 2 ^ (32 * (j + 1)) * val v + val u) :
    winV u j (n + 1) < 4294967296 * val v ∧ winV u j (n + 1) / val v < 4294967296 ∧ val (putW u j (dgN (n + 1) (winV u j (n + 1) % val v))) < val v * 2 ^ (32 * j) ∧
      U = val ((q.set j (winV u j (n + 1) / val v)).drop j) * 2 ^ (32 * j) * val v + val (putW u j (dgN (n + 1) (winV u j (n + 1) % val v))) := by
  have hV := val_lt hv
  rw [hn] at hV
  have hV0 : 0 < val v := by
    rcases Nat.eq_zero_or_pos (val v) with e | e
    · rw [e] at hlt; omega
    · exact e
  have hT := val_lt (digs_take hu j)
  rw [List.length_take, Nat.min_eq_left (by omega)] at hT
  have hsplit := val_take_drop u j (by omega)
  have hwin := val_win (L := u) j (n + 1) (by omega)
  have hp := Nat.two_pow_pos (32 * j)
  have hd : val (u.drop j) < 4294967296 * val v := by
    rw [pow_split] at hlt
    have h1 : 2 ^ (32 * j) * val (u.drop j) < 2 ^ (32 * j) * (4294967296 * val v) := by
      have : val v * (2 ^ (32 * j) * 4294967296) = 2 ^ (32 * j) * (4294967296 * val v) := by rw [Nat.mul_comm (val v), Nat.mul_assoc]
      omega
    exact Nat.lt_of_mul_lt_mul_left h1
  have hrest : val (u.drop (j + (n + 1))) = 0 := by
    rcases Nat.eq_zero_or_pos (val (u.drop (j + (n + 1)))) with e | e
    · exact e
    · exfalso
      have h1 := Nat.le_mul_of_pos_right (2 ^ (32 * (n + 1))) e
      have h2 := pow_split n
      omega
  rw [hrest, Nat.mul_zero, Nat.add_zero] at hwin
  rw [← hwin]
  have hW : val (u.drop j) / val v < 4294967296 := by rw [Nat.div_lt_iff_lt_mul hV0]; exact hd
  have hm := Nat.mod_lt (val (u.drop j)) hV0
  have hdm := Nat.div_add_mod (val (u.drop j)) (val v)
  have hput : val (putW u j (dgN (n + 1) (val (u.drop j) % val v))) = val (u.take j) + 2 ^ (32 * j) * (val (u.drop j) % val v) := by
    rw [val_putW (by rw [dgN_length]; omega), dgN_length, hrest, Nat.mul_zero, Nat.add_zero, val_dgN, Nat.mod_eq_of_lt]
    rw [pow_split]
    omega
  have hdrop : val ((q.set j (val (u.drop j) / val v)).drop j) = val (u.drop j) / val v + 4294967296 * val (q.drop (j + 1)) := by
    rw [val_drop_at (by simpa using hq)]
    congr 2
    · simp [List.getD_eq_getElem?_getD, hq]
    · rw [drop_set_succ]
  refine ⟨hd, hW, ?_, ?_⟩
  · rw [hput]
    have h1 : 2 ^ (32 * j) * (val (u.drop j) % val v + 1) ≤ 2 ^ (32 * j) * val v := Nat.mul_le_mul_left _ hm
    rw [Nat.mul_add, Nat.mul_one] at h1
    rw [Nat.mul_comm (val v)]
    omega
  · rw [hU, hput, hdrop, hsplit, pow_split]
    generalize val (q.drop (j + 1)) = Q
    generalize val (u.drop j) / val v = d at hdm ⊢
    generalize val (u.drop j) % val v = r at hdm ⊢
    generalize val (u.drop j) = W at hdm ⊢
    generalize val (u.take j) = T
    generalize 2 ^ (32 * j) = p
    subst hdm
    have e1 : (d + 4294967296 * Q) * p * val v = d * p * val v + Q * (p * 4294967296) * val v := by
      rw [Nat.add_mul, Nat.add_mul, Nat.mul_comm 4294967296 Q, Nat.mul_assoc Q, Nat.mul_comm 4294967296 p]
    have e2 : p * (val v * d + r) = d * p * val v + p * r := by
      rw [Nat.mul_add, Nat.mul_comm (val v) d, ← Nat.mul_assoc, Nat.mul_comm p d]
    rw [e1, e2]
    omega
theorem long_end {u q v : List Nat} {U : Nat} (hu : digs u) (hq : digs q) (hlt : val u < val v) (hU : U = val q * val v + val u) : u = dgN u.length (U % val v) ∧ q = dgN q.length (U / val v) := by
  have h1 : U % val v = val u := by rw [hU, Nat.add_comm, Nat.add_mul_mod_self_right, Nat.mod_eq_of_lt hlt]
  have h2 : U / val v = val q := by rw [hU, Nat.add_comm, Nat.add_mul_div_right _ _ (by omega), Nat.div_eq_of_lt hlt, Nat.zero_add]
  rw [h1, h2, dgN_val hu, dgN_val hq]
  exact ⟨rfl, rfl⟩
end Go.Dy
namespace Go.AI
open Go Go.RowKit Go.Proofs
set_option linter.unusedVariables false
set_option maxRecDepth 100000

theorem ok_tabL : PhiOk Tryd.prog Inv (look tabL) := look_cons (look_cons ok_tab4 ok_upO) ok_step

theorem loop_long_1 : LoopOk Tryd.prog (look tabL) lamLong 2 68 keepL1 (bodyN Tryd.f79 0) lsL1 := by
  intro vals r h K hK
  unfold lsL1 at h
  split at h
  · cases h
    rename_i a s v u
    simp only [evLR] at hK
    obtain ⟨⟨ha, hu⟩, hK⟩ := hK
    have key : ∀ (m : Nat) (u : List Nat), u.length ≤ 1048577 → m = a.length + 1 - u.length → K (.exit 0) [.dig [1, 2, 3] a, .num .i64 s, .grown 48 v, .grown 48 (u ++ List.replicate m 0)] →
        ∃ k, iterN Tryd.prog (look tabL) lamLong 2 68 keepL1 (bodyN Tryd.f79 0) k [.dig [1, 2, 3] a, .num .i64 s, .grown 48 v, .grown 48 u] K := by
      intro m
      induction m with
      | zero =>
        intro u hu hm hK
        refine iterN_last ?_
        rw [vc_long_1]
        refine cond_f (decide_eq_false (by omega)) ?_
        simpa using hK
      | succ m ih =>
        intro u hu hm hK
        obtain ⟨k, hk⟩ := ih (u ++ [0]) (by simp; omega) (by simp; omega) (by rw [List.append_assoc]; exact hK)
        refine iterN_next k ?_
        rw [vc_long_1]
        exact cond_t (decide_eq_true (by omega)) ⟨by omega, hk⟩
    exact key _ u hu rfl hK
  · cases h

theorem loop_long_2 : LoopOk Tryd.prog (look tabL) lamLong 2 68 keepL2 (bodyN Tryd.f79 1) lsL2 := by
  intro vals r h K hK
  unfold lsL2 at h
  split at h
  · cases h
    rename_i s v u n q j
    simp only [evLR] at hK
    obtain ⟨⟨hdu, hdv, hv2, rfl, hul, hub, hq0, rfl, hvt, hlt⟩, hK⟩ := hK
    generalize hU : Dy.val u = U at hK
    generalize hk : q.length = k at *
    generalize hul' : u.length = lu at *
    have key : ∀ (j : Nat) (u q : List Nat), u.length = lu → q.length = k → j ≤ k → Dy.digs u → Dy.digs q → Dy.val u < Dy.val v * 2 ^ (32 * j) → U = Dy.val (q.drop j) * 2 ^ (32 * j) * Dy.val v + Dy.val u →
        ∃ m, iterN Tryd.prog (look tabL) lamLong 2 68 keepL2 (bodyN Tryd.f79 1) m [.num .i64 s, .grown 48 v, .grown 48 u, .num .i64 v.length, .grown 48 q, .num .i64 ((j : Int) - 1)] K := by
      intro j
      induction j with
      | zero =>
        intro u q hul hql _ hdu hdq hlt hU
        refine iterN_last ?_
        rw [vc_long_2]
        refine cond_f (decide_eq_false (by omega)) ?_
        obtain ⟨e1, e2⟩ := Dy.long_end hdu hdq (by simpa using hlt) (by simpa using hU)
        rw [hul] at e1
        rw [hql] at e2
        rw [e1, e2]
        exact hK
      | succ j ih =>
        intro u q hul hql hjk hdu hdq hlt hU
        obtain ⟨s1, s2, s3, s4⟩ := Dy.long_step hdu hdv rfl (by omega) (by omega) hlt hU
        obtain ⟨m, hm⟩ := ih _ (q.set j (Dy.winV u j (v.length + 1) / Dy.val v)) (by rw [Dy.putW_length (by rw [Dy.dgN_length]; omega)]; exact hul) (by simpa using hql) (by omega) (Dy.digs_putW hdu (Dy.digs_dgN _ _) j) (Dy.digs_set hdq s2) s3 s4
        refine iterN_next m ?_
        rw [vc_long_2]
        have e0 : (((j + 1 : Nat) : Int) - 1) = (j : Int) := by omega
        have e1 : IntKind.i64.wrap (IntKind.i64.wrap ((j : Int) + (v.length : Int)) + 1) = ((j + v.length + 1 : Nat) : Int) := by
          rw [wrap_i64 (n := (j : Int) + (v.length : Int)) (by omega) (by omega), wrap_i64 (by omega) (by omega)]
          omega
        have e2 : IntKind.i64.wrap ((j : Int) - 1) = (j : Int) - 1 := wrap_i64 (by omega) (by omega)
        rw [e0, e1, e2, Int.toNat_natCast, Int.toNat_natCast, Int.toNat_natCast, show j + v.length + 1 - j = v.length + 1 by omega]
        refine cond_t (decide_eq_true (by omega)) ⟨⟨by omega, by omega, by omega⟩, ⟨⟨by omega, by omega, hv2, rfl, by omega, hvt, s1⟩, by omega⟩, by omega, by omega, hm⟩
    exact key k u q hul' hk (Nat.le_refl _) hdu (by rw [hq0]; exact Dy.digs_replicate _) (by first | exact hlt | (rw [hU]; exact hlt)) (by rw [List.drop_of_length_le (by omega), show Dy.val [] = 0 from rfl, Nat.zero_mul, Nat.zero_mul, Nat.zero_add]; exact hU.symm)
  · cases h

theorem ok_long (args : List AV) (s : Spec) (h : sLong args = some s) (hp : andO s.pre True) : Contract Tryd.prog Inv 79 args s.res := by
  unfold sLong at h
  split at h
  · cases h
    rename_i a b
    obtain ⟨⟨ha, hb, hb2, hba, hal⟩, -⟩ := hp
    refine contract_at false 68 lamLong ok_tabL Tryd.func79 (by kernel_rfl) rfl (loops2 (by kernel_rfl) (by kernel_rfl) loop_long_1 (by kernel_rfl) loop_long_2) fun hok => ?_
    have hda := (oks1_dig hok).1.2
    have hdb := (oks1_dig (oks1_dig hok).2).1.2
    have hbn : b ≠ [] := fun e => by rw [e] at hb2; simp at hb2
    have han : a ≠ [] := fun e => by subst e; have : ([] : List Nat).length = 0 := rfl; omega
    have htop := ((Dy.can_iff hdb).1 hb).resolve_left hbn
    have htl := Dy.digs_getD hdb (b.length - 1)
    have hbl := Dy.bl_digits hdb hbn htop
    have hB0 : Dy.val b ≠ 0 := fun e => by rw [e, Dy.dg_zero] at hb; exact hbn hb.symm
    have ht32 : Dy.bl (b.getD (b.length - 1) 0) ≤ 32 := Dy.bl_le.2 (by omega)
    have ht0 : 0 < Dy.bl (b.getD (b.length - 1) 0) := Dy.bl_pos.2 htop
    rw [vc_long]
    have w1 : IntKind.i64.wrap ((b.length : Int) - 1) = ((b.length - 1 : Nat) : Int) := by rw [wrap_i64 (by omega) (by omega)]; omega
    rw [w1, Int.toNat_natCast, Int.toNat_natCast, Dy.bitLen_eq (by omega)]
    obtain ⟨s, hs⟩ : ∃ s, s = 32 - Dy.bl (b.getD (b.length - 1) 0) := ⟨_, rfl⟩
    have hs1 : (32 : Int) - (Dy.bl (b.getD (b.length - 1) 0) : Int) = (s : Int) := by omega
    rw [hs1, Int.toNat_natCast]
    -- the divisor
    have hVbl : Dy.bl (Dy.val b * 2 ^ s) = 32 * b.length := by rw [Dy.bl_mul_two_pow hB0, hbl]; omega
    have hV0 : Dy.val b * 2 ^ s ≠ 0 := Nat.mul_ne_zero hB0 (Nat.pos_iff_ne_zero.1 (Nat.two_pow_pos s))
    have hVl : (Dy.dg (Dy.val b * 2 ^ s)).length = b.length := by
      refine Nat.le_antisymm (Dy.length_dg_bl.2 (by omega)) ?_
      rcases Nat.lt_or_ge (Dy.dg (Dy.val b * 2 ^ s)).length b.length with c | c
      · have := (Dy.length_dg_bl (n := Dy.val b * 2 ^ s) (k := b.length - 1)).1 (by omega)
        omega
      · exact c
    have hVge := Dy.two_bl_le hV0
    rw [hVbl] at hVge
    have hVlt : Dy.val b * 2 ^ s < 2 ^ (32 * b.length) := by have := Dy.lt_two_bl (Dy.val b * 2 ^ s); rwa [hVbl] at this
    have hVtop : 2147483648 ≤ (Dy.dg (Dy.val b * 2 ^ s)).getD (b.length - 1) 0 := by
      rw [Dy.getD_val (Dy.digs_dg _), Dy.val_dg]
      have h1 : Dy.val b * 2 ^ s / 2 ^ (32 * (b.length - 1)) < 4294967296 := by
        have hps := Dy.pow_split (b.length - 1)
        rw [show b.length - 1 + 1 = b.length by omega] at hps
        rw [Nat.div_lt_iff_lt_mul (Nat.two_pow_pos _)]
        omega
      rw [Nat.mod_eq_of_lt h1, Nat.le_div_iff_mul_le (Nat.two_pow_pos _), show 2147483648 = 2 ^ 31 from rfl, ← Nat.pow_add, show 31 + 32 * (b.length - 1) = 32 * b.length - 1 by omega]
      exact hVge
    -- the dividend
    have hA := Dy.val_lt hda
    have hUlt : Dy.val a * 2 ^ s < 2 ^ (32 * (a.length + 1)) := by
      rw [Dy.pow_split]
      exact Nat.mul_lt_mul_of_lt_of_le hA (Nat.le_trans (Nat.pow_le_pow_right (n := 2) (by decide) (show s ≤ 32 by omega)) (by decide)) (by decide)
    have hUl : (Dy.dg (Dy.val a * 2 ^ s)).length ≤ a.length + 1 := Dy.length_dg_le.2 hUlt
    have hU1l : (Dy.dg (Dy.val a * 2 ^ s) ++ List.replicate (a.length + 1 - (Dy.dg (Dy.val a * 2 ^ s)).length) 0).length = a.length + 1 := by simp; omega
    have hU1v : Dy.val (Dy.dg (Dy.val a * 2 ^ s) ++ List.replicate (a.length + 1 - (Dy.dg (Dy.val a * 2 ^ s)).length) 0) = Dy.val a * 2 ^ s := by
      rw [Dy.val_append, Dy.val_replicate, Nat.mul_zero, Nat.add_zero, Dy.val_dg]
    have hU1d : Dy.digs (Dy.dg (Dy.val a * 2 ^ s) ++ List.replicate (a.length + 1 - (Dy.dg (Dy.val a * 2 ^ s)).length) 0) := Dy.digs_append.2 ⟨Dy.digs_dg _, Dy.digs_replicate _⟩
    have hVv : Dy.val (Dy.dg (Dy.val b * 2 ^ s)) = Dy.val b * 2 ^ s := Dy.val_dg _
    have hVd := Dy.digs_dg (Dy.val b * 2 ^ s)
    generalize Dy.dg (Dy.val a * 2 ^ s) ++ List.replicate (a.length + 1 - (Dy.dg (Dy.val a * 2 ^ s)).length) 0 = U1 at *
    generalize Dy.dg (Dy.val b * 2 ^ s) = V at *
    rw [hU1l, hVl, hU1v, hVv]
    have w2 : IntKind.i64.wrap (((a.length + 1 : Nat) : Int) - (b.length : Int)) = ((a.length + 1 - b.length : Nat) : Int) := by rw [wrap_i64 (by omega) (by omega)]; omega
    rw [w2, Int.toNat_natCast, List.length_replicate, Int.toNat_natCast]
    have w3 : IntKind.i64.wrap (((a.length + 1 - b.length : Nat) : Int) - 1) = ((a.length + 1 - b.length : Nat) : Int) - 1 := wrap_i64 (by omega) (by omega)
    rw [w3]
    have hmul : Dy.val a * 2 ^ s < Dy.val b * 2 ^ s * 2 ^ (32 * (a.length + 1 - b.length)) := by
      have h1 : 2 ^ (32 * (b.length - 1)) ≤ Dy.val b := by
        have := Dy.le_of_length hB0
        rwa [hb] at this
      have h2 : Dy.val a < Dy.val b * 2 ^ (32 * (a.length + 1 - b.length)) := by
        refine Nat.lt_of_lt_of_le hA (Nat.le_trans ?_ (Nat.mul_le_mul_right _ h1))
        rw [← Nat.pow_add]
        exact Nat.pow_le_pow_right (by decide) (by omega)
      have h3 := Nat.mul_lt_mul_of_pos_right h2 (Nat.two_pow_pos s)
      rw [Nat.mul_right_comm]
      exact h3
    have hq : Dy.val a * 2 ^ s / (Dy.val b * 2 ^ s) = Dy.val a / Dy.val b := Nat.mul_div_mul_right _ _ (Nat.two_pow_pos s)
    have hr : Dy.val a * 2 ^ s % (Dy.val b * 2 ^ s) = Dy.val a % Dy.val b * 2 ^ s := Nat.mul_mod_mul_right _ _ _
    have hqlt : Dy.val a / Dy.val b < 2 ^ (32 * (a.length + 1 - b.length)) := by
      rw [← hq, Nat.div_lt_iff_lt_mul (Nat.pos_iff_ne_zero.2 hV0), Nat.mul_comm (2 ^ _)]
      exact hmul
    have hrlt : Dy.val a % Dy.val b * 2 ^ s < 2 ^ (32 * b.length) := by
      refine Nat.lt_of_le_of_lt (Nat.mul_le_mul_right _ (Nat.le_of_lt (Nat.mod_lt _ (Nat.pos_iff_ne_zero.2 hB0)))) hVlt
    have hrv : Dy.val ((Dy.dgN (a.length + 1) (Dy.val a % Dy.val b * 2 ^ s)).take b.length) = Dy.val a % Dy.val b * 2 ^ s := by
      rw [Dy.val_take (Dy.digs_dgN _ _), Dy.val_dgN, Nat.mod_mod_of_dvd _ (Nat.pow_dvd_pow 2 (by omega)), Nat.mod_eq_of_lt hrlt]
    rw [hq, hr, hrv, Dy.val_dgN, Nat.mod_eq_of_lt hqlt, Dy.val_dg, Dy.val_dg, Nat.mul_div_cancel _ (Nat.two_pow_pos s)]
    have hlast : (Dy.dg (Dy.val a % Dy.val b * 2 ^ s)).length ≤ b.length := Dy.length_dg_le.2 hrlt
    exact ⟨by omega, ⟨hbn, by omega, by omega, by omega⟩, ⟨han, by omega, by omega, hal⟩, ⟨hal, by omega⟩, ⟨by omega, by omega, by omega⟩,
      ⟨hU1d, hVd, hb2, rfl, by omega, by omega, rfl, rfl, hVtop, hmul⟩, ⟨by omega, by rw [Dy.dgN_length]; omega⟩, ⟨by omega, by omega⟩, rfl⟩
  · cases h
end Go.AI

namespace Go.Dy
/-- the whole root -/
def isq : Nat → Nat
  | 0 => 0
  | n + 1 => if (isq n + 1) * (isq n + 1) ≤ n + 1 then isq n + 1 else isq n
structure Qr where
  quo : List Nat
  rem : List Nat
  err : Int
def quoR (a b : List Nat) : Qr := if may a && may b then (if val b = 0 then ⟨[], [], 11⟩ else ⟨dg (val a / val b), dg (val a % val b), 0⟩) else ⟨[], [], 2⟩
structure Rt where
  mag : List Nat
  exact : Bool
  err : Int
def rootR (a : List Nat) : Rt := if may a then ⟨dg (isq (val a)), decide (isq (val a) * isq (val a) = val a), 0⟩ else ⟨[], false, 2⟩
end Go.Dy
namespace Go.AI
open Go Go.RowKit Go.Proofs
set_option linter.unusedVariables false
def sQuoRem : List AV → Option Spec
  | [.dig [1] a, .dig [2] b] => some ⟨none, .tup [.dig [0] (Dy.quoR a b).quo, .dig [0] (Dy.quoR a b).rem, .num .i64 (Dy.quoR a b).err]⟩
  | _ => none
def sRootN : List AV → Option Spec
  | [.dig [1] a] => some ⟨none, .tup [.dig [0] (Dy.rootR a).mag, .bool (Dy.rootR a).exact, .num .i64 (Dy.rootR a).err]⟩
  | _ => none
def tabQ0 : List (Nat × (List AV → Option Spec)) := (79, sLong) :: tab4
def tabQ1 : List (Nat × (List AV → Option Spec)) := (64, sQuoRem) :: tab4
def tabQ : List (Nat × (List AV → Option Spec)) := tabQ1
end Go.AI

namespace Go.AI
open Go Go.RowKit Go.Proofs
set_option linter.unusedVariables false
set_option maxRecDepth 100000
set_option maxHeartbeats 0
theorem vc_nat_QuoRem (a : List
  Nat) (b : List
  Nat) (Q : AV →
  Prop) : (evF Tryd.prog (look tabQ0) (lam []) false Tryd.f64 [AV.dig [(1 : Nat)] a, AV.dig [(2 : Nat)] b] Q) =
  (bif !(Dy.may a && Dy.may b) then
  Q (AV.tup [AV.dig [(0 : Nat)] [], AV.dig [(0 : Nat)] [], AV.num IntKind.i64 (2 : Int)])
 else
  bif decide ((↑b.length : Int) = (0 : Int)) then
  Q (AV.tup [AV.dig [(0 : Nat)] [], AV.dig [(0 : Nat)] [], AV.num IntKind.i64 (11 : Int)])
  else
  (Dy.dg (Dy.val a) = a ∧ Dy.dg (Dy.val b) = b) ∧
  bif decide (Dy.cmpN (Dy.val a) (Dy.val b) < (0 : Int)) then
  a.length ≤ (1099511627776 : Nat) ∧
  Q (AV.tup [AV.dig [(0 : Nat)] [], AV.dig [(0 : Nat)] a, AV.num IntKind.i64 (0 : Int)])
  else
  bif decide ((↑b.length : Int) = (1 : Int)) then
  ((0 : Int) ≤ (0 : Int) ∧ (0 : Int) < (↑b.length : Int)) ∧
  ((0 : Int) < (↑(b.getD (0 : Nat) (0 : Nat)) : Int) ∧ a.length ≤ (1048576 : Nat)) ∧
  ∀ (l1 : List Nat),
  l1 = Dy.dg (Dy.val a / (↑(b.getD (0 : Nat) (0 : Nat)) : Int).toNat) →
  ∀ (n2 : Int),
  n2 = (↑(Dy.val a % (↑(b.getD (0 : Nat) (0 : Nat)) : Int).toNat) : Int) →
  Q
  (AV.tup
  [AV.dig [(0 : Nat)] l1, AV.dig [(0 : Nat)] (Dy.dg (Dy.val [n2.toNat])),
  AV.num IntKind.i64 (0 : Int)])
  else
  (Dy.dg (Dy.val a) = a ∧
  Dy.dg (Dy.val b) = b ∧ (2 : Nat) ≤ b.length ∧ b.length ≤ a.length ∧ a.length ≤ (1048576 : Nat)) ∧
  ∀ (l3 : List Nat),
  l3 = Dy.dg (Dy.val a / Dy.val b) →
  ∀ (l4 : List Nat),
  l4 = Dy.dg (Dy.val a % Dy.val b) →
  Q
  (AV.tup
  [AV.dig [(0 : Nat)] l3, AV.dig [(0 : Nat)] l4, AV.num IntKind.i64 (0 : Int)])) := by kernel_rfl

def lsRoot : List AV → Option LR
  | [.dig [1, 2] a, .dig [2] r, .bool b, .num .i64 e, .dig [2] x] =>
  some (.need (Dy.may a = true ∧ a ≠ [] ∧ Dy.dg (Dy.val x) = x ∧ x.length ≤ 4096 ∧ x ≠ [] ∧ Dy.isq (Dy.val a) ≤ Dy.val x)
  (.done .ret [.dig [1, 2] a, .dig [2] (Dy.dg (Dy.isq (Dy.val a))), .bool (decide (Dy.isq (Dy.val a) * Dy.isq (Dy.val a) = Dy.val a)), .num .i64 0, .dig [2] (Dy.dg (Dy.isq (Dy.val a)))]))
  | _ => none
def keepRoot : List (Nat × Keep) := [(0, .same), (2, .same), (3, .same), (4, .same), (5, .same)]
def lsSum : List AV → Option LR
  | [.dig [1, 2] a, .dig [2] r, .bool b, .num .i64 e, .dig [2] x, .dig [2] q, .grown 48 o, .num .u32 c, .num .i64 k, .num .i64 i] =>
  some (.need (Dy.digs x ∧ Dy.digs q ∧ o = List.replicate o.length 0 ∧ x.length < o.length ∧ q.length < o.length ∧ o.length ≤ 1048576 ∧ c = 0 ∧ k = o.length ∧ i = 0)
  (.done (.exit 2) [.dig [1, 2] a, .dig [2] r, .bool b, .num .i64 e, .dig [2] x, .dig [2] q, .grown 48 (Dy.dgN o.length (Dy.val q + Dy.val x)), .num .u32 0, .num .i64 k, .num .i64 k]))
  | _ => none
def keepSum : List (Nat × Keep) := [(0, .same), (2, .same), (3, .same), (4, .same), (5, .same), (6, .same), (9, .same), (10, .same), (42, .same), (43, .same)]
def lamRoot := lam [(6, .spec keepRoot lsRoot), (10, .spec keepSum lsSum)]
end Go.AI

namespace Go.Dy
theorem isq_spec : ∀ n, isq n * isq n ≤ n ∧ n < (isq n + 1) * (isq n + 1)
  | 0 => by decide
  | n + 1 => by
    obtain ⟨h1, h2⟩ := isq_spec n
    unfold isq
    split
    · rename_i h
      refine ⟨h, ?_⟩
      have : (isq n + 1 + 1) * (isq n + 1 + 1) = (isq n + 1) * (isq n + 1) + 2 * (isq n + 1) + 1 := by
        rw [Nat.add_mul _ 1, Nat.mul_add, Nat.mul_one, Nat.one_mul]; omega
      omega
    · rename_i h
      exact ⟨by omega, by omega⟩
theorem le_isq {x n : Nat} (h : x * x ≤ n) : x ≤ isq n := by
  rcases Nat.lt_or_ge (isq n) x with c | c
  · have := Nat.mul_le_mul c c
    have := (isq_spec n).2
    simp only [Nat.succ_eq_add_one] at *
    omega
  · exact c
theorem isq_pos {n : Nat} (h : n ≠ 0) : 0 < isq n := le_isq (by omega)
theorem isq_lt {x n : Nat} (h : n < x * x) : isq n < x := by
  rcases Nat.lt_or_ge (isq n) x with c | c
  · exact c
  · have := Nat.mul_le_mul c c
    have := (isq_spec n).1
    omega
/-- Newton's step does not go below the root -/
theorem newton_ge {a x : Nat} (hx : 0 < x) : isq a ≤ (a / x + x) / 2 := by
  rw [Nat.le_div_iff_mul_le (by decide)]
  rcases Nat.lt_or_ge (a / x + x) (isq a * 2) with c | c
  · exfalso
    have h0 := Nat.zero_le (a / x)
    obtain ⟨d, hd⟩ : ∃ d, d + x = isq a * 2 := ⟨isq a * 2 - x, by omega⟩
    have h1 : a / x < d := by omega
    rw [Nat.div_lt_iff_lt_mul hx] at h1
    have h2 := (isq_spec a).1
    -- d * x ≤ root * root
    have h3 : d * x ≤ isq a * isq a := by
      generalize isq a = s at hd
      rcases Nat.lt_or_ge x s with e | e
      · obtain ⟨k, rfl⟩ : ∃ k, s = x + k := ⟨s - x, by omega⟩
        have : d = x + k + k := by omega
        subst this
        have e1 : (x + k + k) * x = x * x + k * x + k * x := by rw [Nat.add_mul, Nat.add_mul]
        have e2 : (x + k) * (x + k) = x * x + k * x + (x * k + k * k) := by rw [Nat.mul_add, Nat.add_mul, Nat.add_mul]
        have e3 := Nat.mul_comm x k
        have e4 := Nat.zero_le (k * k)
        omega
      · obtain ⟨k, rfl⟩ : ∃ k, x = s + k := ⟨x - s, by omega⟩
        obtain ⟨m, rfl⟩ : ∃ m, s = m + k := ⟨s - k, by omega⟩
        have : d = m := by omega
        subst this
        have e1 : d * (d + k + k) = d * d + d * k + d * k := by rw [Nat.mul_add, Nat.mul_add]
        have e2 : (d + k) * (d + k) = d * d + k * d + (d * k + k * k) := by rw [Nat.mul_add, Nat.add_mul, Nat.add_mul]
        have e3 := Nat.mul_comm d k
        have e4 := Nat.zero_le (k * k)
        omega
    omega
  · exact c
theorem newton_end {a x : Nat} (hx : 0 < x) (h : x ≤ (a / x + x) / 2) (hx' : isq a ≤ x) : x = isq a := by
  rw [Nat.le_div_iff_mul_le (by decide)] at h
  have h1 : x ≤ a / x := by omega
  rw [Nat.le_div_iff_mul_le hx] at h1
  have := le_isq h1
  omega
theorem dg_pow_len {e k : Nat} (h : e < 32 * k) : (dg (2 ^ e)).length ≤ k := length_dg_bl.2 (bl_le.2 (Nat.pow_lt_pow_right (by decide) h))
theorem newton_begin {a : Nat} (ha : a ≠ 0) : isq a ≤ 2 ^ ((bl a + 1) / 2) := by
  refine Nat.le_of_lt (isq_lt ?_)
  rw [← Nat.pow_add]
  exact Nat.lt_of_lt_of_le (lt_two_bl a) (Nat.pow_le_pow_right (by decide) (by omega))
end Go.Dy
namespace Go.AI
open Go Go.RowKit Go.Proofs
set_option linter.unusedVariables false
set_option maxRecDepth 100000
set_option maxHeartbeats 1000000

theorem ok_tabQ0 : PhiOk Tryd.prog Inv (look tabQ0) := look_cons ok_tab4 ok_long

theorem ok_nat_QuoRem (args : List AV) (s : Spec) (h : sQuoRem args = some s) (hp : andO s.pre True) : Contract Tryd.prog Inv 64 args s.res := by
  unfold sQuoRem at h
  split at h
  · cases h
    rename_i a b
    refine contract0 false ok_tabQ0 Tryd.func64 (by kernel_rfl) (by kernel_rfl) fun hok => ?_
    have ha := (oks1_dig hok).1
    have hb := (oks1_dig (oks1_dig hok).2).1
    rw [vc_nat_QuoRem]
    unfold Dy.quoR
    cases hm : Dy.may a && Dy.may b with
    | false => exact cond_t rfl rfl
    | true =>
      obtain ⟨m1, m2⟩ := Bool.and_eq_true_iff.1 hm
      have l1 := Dy.may_len m1
      have l2 := Dy.may_len m2
      have d1 := Dy.may_dg m1
      have d2 := Dy.may_dg m2
      refine cond_f rfl ?_
      by_cases hb0 : b = []
      · subst hb0
        exact cond_t rfl rfl
      · have hbl := List.length_pos_iff.2 hb0
        have hv0 : Dy.val b ≠ 0 := fun e => hb0 ((Dy.may_nil m2).1 e)
        rw [if_pos rfl, if_neg hv0]
        refine cond_f (decide_eq_false (by omega)) ⟨⟨d1, d2⟩, cond_i (fun h => ?_) (fun h => ?_)⟩
        · have h := Dy.cmpN_neg.1 (of_decide_eq_true h)
          refine ⟨by omega, ?_⟩
          rw [Nat.div_eq_of_lt h, Nat.mod_eq_of_lt h, d1]
          rfl
        · have h : ¬ Dy.val a < Dy.val b := fun c => absurd (Dy.cmpN_neg.2 c) (of_decide_eq_false h)
          refine cond_i (fun h1 => ?_) (fun h1 => ?_)
          · have h1 := of_decide_eq_true h1
            have hl1 : b.length = 1 := by omega
            match b, hl1 with
            | [d], _ =>
              have hd := (Dy.digs_cons.1 hb.2).1
              have hv : Dy.val [d] = d := by simp [Dy.val]
              rw [hv] at hv0 ⊢
              have e : ([d] : List Nat).getD 0 0 = d := rfl
              rw [e, Int.toNat_natCast]
              refine ⟨⟨by omega, by simp⟩, ⟨by omega, by omega⟩, ?_⟩
              rintro _ rfl _ rfl
              rw [Int.toNat_natCast]
              simp [Dy.val]
          · have h1 := of_decide_eq_false h1
            have hba : b.length ≤ a.length := by
              have := Dy.length_dg_mono (Nat.le_of_not_lt h)
              rwa [d1, d2] at this
            refine ⟨⟨d1, d2, by omega, hba, by omega⟩, ?_⟩
            rintro _ rfl _ rfl
            rfl
  · cases h
theorem ok_tabQ1 : PhiOk Tryd.prog Inv (look tabQ1) := look_cons ok_tab4 ok_nat_QuoRem

theorem ok_tabQ : PhiOk Tryd.prog Inv (look tabQ) := ok_tabQ1
end Go.AI

namespace Go.AI
open Go Go.RowKit Go.Proofs
set_option linter.unusedVariables false
def rByDigit : List AV → Option Spec
  | [.dig [1] a, .num .u32 d] => some ⟨some (0 < d ∧ a.length ≤ 100000), .tup [.dig [0] (Dy.dg (Dy.val a / d.toNat)), .dig [0] (Dy.dg (Dy.val a % d.toNat))]⟩
  | _ => none
def rQuoRem : List AV → Option Spec
  | [.dig [1] a, .dig [2] b] => some ⟨some (Dy.dg (Dy.val a) = a ∧ Dy.dg (Dy.val b) = b ∧ b ≠ [] ∧ a.length ≤ 100000 ∧ b.length ≤ 100000), .tup [.dig [0] (Dy.dg (Dy.val a / Dy.val b)), .dig [0] (Dy.dg (Dy.val a % Dy.val b))]⟩
  | _ => none
def rRootN : List AV → Option Spec
  | [.dig [1] a] => some ⟨some (Dy.dg (Dy.val a) = a ∧ a.length ≤ 100000), .tup [.dig [0] (Dy.dg (Dy.isq (Dy.val a))), .bool (decide (Dy.isq (Dy.val a) * Dy.isq (Dy.val a) = Dy.val a))]⟩
  | _ => none
def tabE0 : List (Nat × (List AV → Option Spec)) := (64, sQuoRem) :: tab23
def tabE1 : List (Nat × (List AV → Option Spec)) := tabE0
def tabE2 : List (Nat × (List AV → Option Spec)) := tabE1
theorem ok_tabE0 : PhiOk Tryd.prog Inv (look tabE0) := look_cons ok_tab23 ok_nat_QuoRem
end Go.AI

namespace Go.AI
open Go Go.RowKit Go.Proofs
set_option linter.unusedVariables false
set_option maxRecDepth 100000
set_option maxHeartbeats 0
def lsByD : List AV → Option LR
  | [.dig [1, 2, 3] a, .num .u32 d, .grown 48 o, .num .u64 c, .num .i64 i] =>
  some (.need (Dy.okl a ∧ 0 < d ∧ d < 4294967296 ∧ o = List.replicate a.length 0 ∧ c = 0 ∧ i = a.length - 1)
  (.done (.exit 0) [.dig [1, 2, 3] a, .num .u32 d, .grown 48 (Dy.dgN a.length (Dy.val a / d.toNat)), .num .u64 (Dy.val a % d.toNat : Nat), .num .i64 (-1)]))
  | _ => none
def keepByD : List (Nat × Keep) := [(0, .same), (1, .same), (6, .same), (7, .same), (8, .same)]
def lamByD := lam [(4, .spec keepByD lsByD)]
def lsRQ : List AV → Option LR
  | [.dig [1, 2, 3] a, .dig [1, 2, 3] b, .grown 48 q, .dig [3] r, .num .i64 i] =>
  some (.need (Dy.dg (Dy.val a) = a ∧ Dy.dg (Dy.val b) = b ∧ Dy.val b ≠ 0 ∧ a.length ≤ 100000 ∧ b.length ≤ 100000 ∧ -1 ≤ i ∧ i < 32 * a.length ∧ q = List.replicate a.length 0 ∧ r = Dy.dg (Dy.val a / 2 ^ (i + 1).toNat) ∧ Dy.val a / 2 ^ (i + 1).toNat < Dy.val b)
  (.done (.exit 0) [.dig [1, 2, 3] a, .dig [1, 2, 3] b, .grown 48 (Dy.dgN a.length (Dy.val a / Dy.val b)), .dig [3] (Dy.dg (Dy.val a % Dy.val b)), .num .i64 (-1)]))
  | _ => none
def keepRQ : List (Nat × Keep) := [(0, .same), (1, .same), (6, .same), (8, .same), (10, .same)]
def lamRQ := lam [(7, .spec keepRQ lsRQ)]
def lsRR : List AV → Option LR
  | [.dig [1, 2] a, .dig [2] r, .dig [2] s, .num .i64 i] =>
  some (.need (Dy.dg (Dy.val a) = a ∧ a.length ≤ 100000 ∧ r = [] ∧ s = [] ∧ -2 ≤ i ∧ i % 2 = 0 ∧ (Dy.bl (Dy.val a) : Int) ≤ i + 2 ∧ i ≤ 4000000)
  (.done (.exit 0) [.dig [1, 2] a, .dig [2] (Dy.dg (Dy.isq (Dy.val a))), .dig [2] (Dy.dg (Dy.val a - Dy.isq (Dy.val a) * Dy.isq (Dy.val a))), .num .i64 (-2)]))
  | _ => none
def keepRR : List (Nat × Keep) := [(0, .same), (4, .same), (5, .same), (7, .same)]
def lamRR := lam [(6, .spec keepRR lsRR)]
end Go.AI

namespace Go.Dy
theorem bit_div (A c : Nat) : A / 2 ^ c = 2 * (A / 2 ^ (c + 1)) + A / 2 ^ c % 2 := by
  rw [Nat.pow_succ, ← Nat.div_div_eq_div_mul]
  omega
/-- one bit of a quotient -/
theorem quo_bit {B Q R X X' b : Nat} (hX : X = B * Q + R) (hR : R < B) (hX' : X' = 2 * X + b) (hb : b < 2) :
    (B ≤ 2 * R + b → X' / B = 2 * Q + 1 ∧ X' % B = 2 * R + b - B) ∧ (2 * R + b < B → X' / B = 2 * Q ∧ X' % B = 2 * R + b) := by
  have e : X' = 2 * R + b + B * (2 * Q) := by
    rw [hX', hX, Nat.mul_add, Nat.mul_left_comm]
    omega
  constructor
  · intro h
    have e2 : X' = (2 * R + b - B) + B * (2 * Q + 1) := by rw [e, Nat.mul_add B, Nat.mul_one]; omega
    rw [e2, Nat.add_mul_div_left _ _ (by omega), Nat.add_mul_mod_self_left, Nat.div_eq_of_lt (by omega), Nat.mod_eq_of_lt (by omega)]
    omega
  · intro h
    rw [e, Nat.add_mul_div_left _ _ (by omega), Nat.add_mul_mod_self_left, Nat.div_eq_of_lt h, Nat.mod_eq_of_lt h]
    omega
/-- a bit set where none was, and none below -/
theorem set_bit {q : List Nat} {c Q : Nat} (hq : digs q) (hc : c < 32 * q.length) (hv : val q = Q * 2 ^ (c + 1)) :
    (q.getD (c / 32) 0 ||| 2 ^ (c % 32)) < 4294967296 ∧ val (q.set (c / 32) (q.getD (c / 32) 0 ||| 2 ^ (c % 32))) = val q + 2 ^ c := by
  have hd : q.getD (c / 32) 0 = (Q % 2 ^ (31 - c % 32)) * 2 ^ (c % 32 + 1) := by
    rw [getD_val hq, hv, show c + 1 = (c % 32 + 1) + 32 * (c / 32) by omega, Nat.pow_add, ← Nat.mul_assoc, Nat.mul_div_cancel _ (Nat.two_pow_pos _)]
    rw [show (4294967296 : Nat) = 2 ^ (31 - c % 32) * 2 ^ (c % 32 + 1) by rw [← Nat.pow_add, show 31 - c % 32 + (c % 32 + 1) = 32 by omega]]
    rw [Nat.mul_mod_mul_right]
  have ho : q.getD (c / 32) 0 ||| 2 ^ (c % 32) = q.getD (c / 32) 0 + 2 ^ (c % 32) := by
    rw [hd]
    have h1 : 2 ^ (c % 32) < 2 ^ (c % 32 + 1) := Nat.pow_lt_pow_right (by decide) (by omega)
    rw [Nat.mul_comm, ← Nat.two_pow_add_eq_or_of_lt h1]
  have hlt := digs_getD hq (c / 32)
  have hp : 2 ^ (c % 32) < 4294967296 := Nat.lt_of_lt_of_le (Nat.pow_lt_pow_right (n := 32) (by decide) (Nat.mod_lt _ (by decide))) (by decide)
  refine ⟨Nat.or_lt_two_pow (n := 32) (by omega) (by omega), ?_⟩
  have hs := val_set (l := q) (i := c / 32) (d := q.getD (c / 32) 0 ||| 2 ^ (c % 32)) (by omega)
  rw [ho, Nat.mul_add, ← Nat.pow_add, show 32 * (c / 32) + c % 32 = c by omega] at hs
  rw [ho]
  omega
theorem isq_uniq {x n : Nat} (h1 : x * x ≤ n) (h2 : n < (x + 1) * (x + 1)) : isq n = x := by
  have := le_isq h1
  have := isq_lt h2
  omega
/-- two bits of a root -/
theorem root_bit {X X' b : Nat} (hX' : X' = 4 * X + b) (hb : b < 4) :
    4 * (X - isq X * isq X) + b ≤ X' ∧ (4 * isq X + 1 ≤ 4 * (X - isq X * isq X) + b → isq X' = 2 * isq X + 1 ∧ X' - isq X' * isq X' = 4 * (X - isq X * isq X) + b - (4 * isq X + 1)) ∧
    (4 * (X - isq X * isq X) + b < 4 * isq X + 1 → isq X' = 2 * isq X ∧ X' - isq X' * isq X' = 4 * (X - isq X * isq X) + b) := by
  obtain ⟨h1, h2⟩ := isq_spec X
  generalize isq X = R at *
  have e0 : (R + 1) * (R + 1) = R * R + 2 * R + 1 := by rw [Nat.add_mul, Nat.mul_add]; omega
  have e1 : (2 * R + 1) * (2 * R + 1) = 4 * (R * R) + 4 * R + 1 := by
    rw [Nat.add_mul, Nat.mul_add, Nat.mul_mul_mul_comm]; omega
  have e2 : (2 * R + 1 + 1) * (2 * R + 1 + 1) = 4 * (R * R) + 8 * R + 4 := by
    rw [show 2 * R + 1 + 1 = 2 * (R + 1) by omega, Nat.mul_mul_mul_comm, e0]; omega
  have e3 : (2 * R) * (2 * R) = 4 * (R * R) := Nat.mul_mul_mul_comm ..
  refine ⟨by omega, fun h => ?_, fun h => ?_⟩
  · have := isq_uniq (x := 2 * R + 1) (n := X') (by omega) (by omega)
    rw [this]
    exact ⟨rfl, by omega⟩
  · have := isq_uniq (x := 2 * R) (n := X') (by omega) (by omega)
    rw [this]
    exact ⟨rfl, by omega⟩
theorem two_bits (A c : Nat) : A / 2 ^ c = 4 * (A / 2 ^ (c + 2)) + (2 * (A / 2 ^ (c + 1) % 2) + A / 2 ^ c % 2) := by
  have h1 := bit_div A c
  have h2 := bit_div A (c + 1)
  rw [h2] at h1
  have h3 : A / 2 ^ (c + 1) % 2 = (2 * (A / 2 ^ (c + 1 + 1)) + A / 2 ^ (c + 1) % 2) % 2 := by rw [← h2]
  show _ = 4 * (A / 2 ^ (c + 1 + 1)) + _
  rw [← h2] at h1
  generalize A / 2 ^ c = x at *
  generalize A / 2 ^ (c + 1) = y at *
  generalize A / 2 ^ (c + 1 + 1) = z at *
  omega
end Go.Dy
namespace Go.AI
open Go Go.RowKit Go.Proofs
set_option linter.unusedVariables false
set_option maxRecDepth 100000
set_option maxHeartbeats 1000000

theorem ok_tabE1 : PhiOk Tryd.prog Inv (look tabE1) := ok_tabE0

theorem or32 {d k : Nat} (hd : d < 4294967296) (hk : k < 32) : IntKind.u32.wrap ((BitVec.ofInt 32 ((d : Nat) : Int) ||| BitVec.ofInt 32 (IntKind.u32.wrap ((1 : Int) * (2 : Int) ^ min k (32 : Nat)))).toNat : Int) = ((d ||| 2 ^ k : Nat) : Int) := by
  have hp : 2 ^ k < 4294967296 := Nat.lt_of_lt_of_le (Nat.pow_lt_pow_right (n := 32) (by decide) hk) (by decide)
  have e1 : IntKind.u32.wrap ((1 : Int) * (2 : Int) ^ min k (32 : Nat)) = ((2 ^ k : Nat) : Int) := by
    rw [Nat.min_eq_left (by omega), Int.one_mul, show ((2 : Int) ^ k) = ((2 ^ k : Nat) : Int) by simp]
    generalize 2 ^ k = p at hp ⊢
    rw [wrap_u32]
    omega
  rw [e1]
  clear e1
  generalize 2 ^ k = p at hp ⊢
  rw [w32_or (by omega) (by omega) (by omega) (by omega), Int.toNat_natCast, Int.toNat_natCast]

theorem ok_tabE2 : PhiOk Tryd.prog Inv (look tabE2) := ok_tabE1
end Go.AI

namespace Go.Dy
/-- a number of a magnitude, cut, with what was lost -/
def madeD (s : Bool) (q : Nat) (e : Int) (more : Bool) (k : Int) : Cutd :=
  if (boundD (form s (q / 2 ^ ((bl q : Int) - k).toNat) (e + (((bl q : Int) - k).toNat : Int)))).2 = 0 then
    ⟨(boundD (form s (q / 2 ^ ((bl q : Int) - k).toNat) (e + (((bl q : Int) - k).toNat : Int)))).1, decide (q % 2 ^ ((bl q : Int) - k).toNat ≠ 0) || more, 0⟩
  else ⟨zeroD, false, (boundD (form s (q / 2 ^ ((bl q : Int) - k).toNat) (e + (((bl q : Int) - k).toNat : Int)))).2⟩
def quoS (a b : Nat) (k : Int) : Nat := (k + 1 + (bl b : Int) - (bl a : Int)).toNat
def quoD (a b : Dyd) (k : Int) : Cutd :=
  if ((mayD a && mayD b) && decide (1 ≤ k)) = true then
    if k ≤ 8192 then
      if b.mag = [] then ⟨zeroD, false, 11⟩ else if a.mag = [] then ⟨zeroD, false, 0⟩
      else madeD (a.neg != b.neg) (val a.mag * 2 ^ quoS (val a.mag) (val b.mag) k / val b.mag) (a.exp - b.exp - quoS (val a.mag) (val b.mag) k) (decide (val a.mag * 2 ^ quoS (val a.mag) (val b.mag) k % val b.mag ≠ 0)) k
    else ⟨zeroD, false, 3⟩
  else ⟨zeroD, false, 2⟩
def sh2 (M : Nat) (n : Int) : Nat := if n < 0 then M / 2 ^ (-n).toNat else M * 2 ^ n.toNat
def fell (M : Nat) (n : Int) : Bool := decide (n < 0 ∧ M % 2 ^ (-n).toNat ≠ 0)
def evenS (e n : Int) : Int := if (e - n) % 2 = 0 then n else n + 1
def rootS (M : Nat) (e k : Int) : Int := evenS e (2 * k + 2 - (bl M : Int))
def rootD (d : Dyd) (k : Int) : Cutd :=
  if (mayD d && decide (1 ≤ k)) = true then
    if k ≤ 8192 then
      if d.mag = [] then ⟨zeroD, false, 0⟩ else if d.neg then ⟨zeroD, false, 10⟩
      else madeD false (isq (sh2 (val d.mag) (rootS (val d.mag) d.exp k))) ((d.exp - rootS (val d.mag) d.exp k) / 2)
        (fell (val d.mag) (rootS (val d.mag) d.exp k) || decide (isq (sh2 (val d.mag) (rootS (val d.mag) d.exp k)) * isq (sh2 (val d.mag) (rootS (val d.mag) d.exp k)) ≠ sh2 (val d.mag) (rootS (val d.mag) d.exp k))) k
    else ⟨zeroD, false, 3⟩
  else ⟨zeroD, false, 2⟩
/-- the document's -/
def quoF (a b : Dyd) (k : Int) : Dyd × Bool :=
  if a.mag = [] then (zeroD, false) else
    ((cutR (form (a.neg != b.neg) (val a.mag * 2 ^ quoS (val a.mag) (val b.mag) k / val b.mag) (a.exp - b.exp - quoS (val a.mag) (val b.mag) k)) k).1,
     (cutR (form (a.neg != b.neg) (val a.mag * 2 ^ quoS (val a.mag) (val b.mag) k / val b.mag) (a.exp - b.exp - quoS (val a.mag) (val b.mag) k)) k).2 || decide (val a.mag * 2 ^ quoS (val a.mag) (val b.mag) k % val b.mag ≠ 0))
def rootZ (M : Nat) (e k : Int) : Nat := (evenS e (if 2 * k + 2 - (bl M : Int) < 0 then 0 else 2 * k + 2 - (bl M : Int))).toNat
def rootF (d : Dyd) (k : Int) : Dyd × Bool :=
  ((cutR (form false (isq (val d.mag * 2 ^ rootZ (val d.mag) d.exp k)) ((d.exp - rootZ (val d.mag) d.exp k) / 2)) k).1,
   (cutR (form false (isq (val d.mag * 2 ^ rootZ (val d.mag) d.exp k)) ((d.exp - rootZ (val d.mag) d.exp k) / 2)) k).2 ||
     decide (isq (val d.mag * 2 ^ rootZ (val d.mag) d.exp k) * isq (val d.mag * 2 ^ rootZ (val d.mag) d.exp k) ≠ val d.mag * 2 ^ rootZ (val d.mag) d.exp k))
end Go.Dy
namespace Go.AI
open Go Go.RowKit Go.Proofs
set_option linter.unusedVariables false
def rCutW : List AV → Option Spec
  | [.agg [.bool s, .dig [1] m, .num .i64 e], .num .i64 b] => some ⟨some (Dy.dg (Dy.val m) = m ∧ m.length ≤ 4096 ∧ Dy.tz (Dy.val m) = 0 ∧ -1099511627776 ≤ e ∧ e + 131072 ≤ 1099511627776 ∧ 1 ≤ b), .tup [avD [0, 1, 2] (Dy.cutR ⟨s, m, e⟩ b).1, .bool (Dy.cutR ⟨s, m, e⟩ b).2]⟩
  | _ => none
def dMade : List AV → Option Spec
  | [.bool s, .dig [2] q, .num .i64 e, .bool more, .num .i64 k] =>
    some ⟨some (Dy.may q = true ∧ -1099511627776 ≤ e ∧ e ≤ 1099511627776 ∧ 1 ≤ k ∧ k ≤ 8192), .tup [avD [0] (Dy.madeD s (Dy.val q) e more k).num, .bool (Dy.madeD s (Dy.val q) e more k).lost, .num .i64 (Dy.madeD s (Dy.val q) e more k).err]⟩
  | _ => none
def dQuo : List AV → Option Spec
  | [.agg [.bool s, .dig [1] m, .num .i64 e], .agg [.bool s', .dig [2] m', .num .i64 e'], .num .i64 k] =>
    some ⟨some (m.length ≤ 1000 ∧ m'.length ≤ 1000), .tup [avD [0] (Dy.quoD ⟨s, m, e⟩ ⟨s', m', e'⟩ k).num, .bool (Dy.quoD ⟨s, m, e⟩ ⟨s', m', e'⟩ k).lost, .num .i64 (Dy.quoD ⟨s, m, e⟩ ⟨s', m', e'⟩ k).err]⟩
  | _ => none
def dRoot : List AV → Option Spec
  | [.agg [.bool s, .dig [1] m, .num .i64 e], .num .i64 k] =>
    some ⟨none, .tup [avD [0] (Dy.rootD ⟨s, m, e⟩ k).num, .bool (Dy.rootD ⟨s, m, e⟩ k).lost, .num .i64 (Dy.rootD ⟨s, m, e⟩ k).err]⟩
  | _ => none
def rQuoD : List AV → Option Spec
  | [.agg [.bool s, .dig [1] m, .num .i64 e], .agg [.bool s', .dig [2] m', .num .i64 e'], .num .i64 k] =>
    some ⟨some (Dy.mayD ⟨s, m, e⟩ = true ∧ Dy.mayD ⟨s', m', e'⟩ = true ∧ m' ≠ [] ∧ 1 ≤ k ∧ k ≤ 8192 ∧ m.length ≤ 1000 ∧ m'.length ≤ 1000), .tup [avD [0] (Dy.quoF ⟨s, m, e⟩ ⟨s', m', e'⟩ k).1, .bool (Dy.quoF ⟨s, m, e⟩ ⟨s', m', e'⟩ k).2]⟩
  | _ => none
def rRootD : List AV → Option Spec
  | [.agg [.bool s, .dig [1] m, .num .i64 e], .num .i64 k] =>
    some ⟨some (Dy.mayD ⟨s, m, e⟩ = true ∧ 1 ≤ k ∧ k ≤ 8192), .tup [avD [0] (Dy.rootF ⟨s, m, e⟩ k).1, .bool (Dy.rootF ⟨s, m, e⟩ k).2]⟩
  | _ => none
def tabF0 : List (Nat × (List AV → Option Spec)) := (86, dMade) :: tabE2
def tabF : List (Nat × (List AV → Option Spec)) := (72, dQuo) :: tabF0
end Go.AI

namespace Go.AI
open Go Go.RowKit Go.Proofs
set_option linter.unusedVariables false
set_option maxRecDepth 100000
set_option maxHeartbeats 0
theorem vc_dyad_made (s : Bool) (more : Bool) (q : List
  Nat) (e : Int) (k : Int) (Q : AV →
  Prop) : (evF Tryd.prog (look tabE2) (lam []) false Tryd.f86
  [AV.bool s, AV.dig [(2 : Nat)] q, AV.num IntKind.i64 e, AV.bool more, AV.num IntKind.i64 k] Q) =
  (∀ (l1 : List Nat),
  l1 =
  (Dy.shiftN q
  (IntKind.i64.wrap
  ((0 : Int) -
  if IntKind.i64.wrap ((↑(Dy.lenN q) : Int) - k) > (0 : Int) then
  IntKind.i64.wrap ((↑(Dy.lenN q) : Int) - k)
  else (0 : Int)))).mag →
  ∀ (b2 : Bool),
  b2 =
  (Dy.shiftN q
  (IntKind.i64.wrap
  ((0 : Int) -
  if IntKind.i64.wrap ((↑(Dy.lenN q) : Int) - k) > (0 : Int) then
  IntKind.i64.wrap ((↑(Dy.lenN q) : Int) - k)
  else (0 : Int)))).lost →
  ∀ (n3 : Int),
  n3 =
  (Dy.shiftN q
  (IntKind.i64.wrap
  ((0 : Int) -
  if IntKind.i64.wrap ((↑(Dy.lenN q) : Int) - k) > (0 : Int) then
  IntKind.i64.wrap ((↑(Dy.lenN q) : Int) - k)
  else (0 : Int)))).err →
  ∀ (b4 : Bool),
  b4 =
  (Dy.makeD s l1
  (IntKind.i64.wrap
  (e +
  if IntKind.i64.wrap ((↑(Dy.lenN q) : Int) - k) > (0 : Int) then
  IntKind.i64.wrap ((↑(Dy.lenN q) : Int) - k)
  else (0 : Int)))).1.neg →
  ∀ (l5 : List Nat),
  l5 =
  (Dy.makeD s l1
  (IntKind.i64.wrap
  (e +
  if IntKind.i64.wrap ((↑(Dy.lenN q) : Int) - k) > (0 : Int) then
  IntKind.i64.wrap ((↑(Dy.lenN q) : Int) - k)
  else (0 : Int)))).1.mag →
  ∀ (n6 : Int),
  n6 =
  (Dy.makeD s l1
  (IntKind.i64.wrap
  (e +
  if IntKind.i64.wrap ((↑(Dy.lenN q) : Int) - k) > (0 : Int) then
  IntKind.i64.wrap ((↑(Dy.lenN q) : Int) - k)
  else (0 : Int)))).1.exp →
  ∀ (n7 : Int),
  n7 =
  (Dy.makeD s l1
  (IntKind.i64.wrap
  (e +
  if IntKind.i64.wrap ((↑(Dy.lenN q) : Int) - k) > (0 : Int) then
  IntKind.i64.wrap ((↑(Dy.lenN q) : Int) - k)
  else (0 : Int)))).snd →
  bif !decide (n7 = (0 : Int)) then
  Q
  (AV.tup
  [AV.agg [AV.bool false, AV.dig [(0 : Nat)] [], AV.num IntKind.i64 (0 : Int)],
  AV.bool false, AV.num IntKind.i64 n7])
  else
  bif b2 then
  Q
  (AV.tup
  [AV.agg [AV.bool b4, AV.dig [(0 : Nat)] l5, AV.num IntKind.i64 n6], AV.bool true,
  AV.num IntKind.i64 (0 : Int)])
  else
  Q
  (AV.tup
  [AV.agg [AV.bool b4, AV.dig [(0 : Nat)] l5, AV.num IntKind.i64 n6], AV.bool more,
  AV.num IntKind.i64 (0 : Int)])) := by kernel_rfl
theorem vc_dyad_Quo (s : Bool) (s' : Bool) (m : List
  Nat) (m' : List
  Nat) (e : Int) (e' : Int) (k : Int) (Q : AV →
  Prop) : (evF Tryd.prog (look tabF0) (lam []) false Tryd.f72
  [AV.agg [AV.bool s, AV.dig [(1 : Nat)] m, AV.num IntKind.i64 e],
  AV.agg [AV.bool s', AV.dig [(2 : Nat)] m', AV.num IntKind.i64 e'], AV.num IntKind.i64 k]
  Q) =
  (bif !(Dy.mayD (Dy.Dyd.mk s m e) && Dy.mayD (Dy.Dyd.mk s' m' e')) then
  Q
  (AV.tup
  [AV.agg [AV.bool false, AV.dig [(0 : Nat)] [], AV.num IntKind.i64 (0 : Int)], AV.bool false,
  AV.num IntKind.i64 (2 : Int)])
 else
  bif decide (k < (1 : Int)) then
  Q
  (AV.tup
  [AV.agg [AV.bool false, AV.dig [(0 : Nat)] [], AV.num IntKind.i64 (0 : Int)], AV.bool false,
  AV.num IntKind.i64 (2 : Int)])
  else
  bif !decide (Dy.askD k = (0 : Int)) then
  Q
  (AV.tup
  [AV.agg [AV.bool false, AV.dig [(0 : Nat)] [], AV.num IntKind.i64 (0 : Int)], AV.bool false,
  AV.num IntKind.i64 (Dy.askD k)])
  else
  bif decide ((↑m'.length : Int) = (0 : Int)) then
  Q
  (AV.tup
  [AV.agg [AV.bool false, AV.dig [(0 : Nat)] [], AV.num IntKind.i64 (0 : Int)], AV.bool false,
  AV.num IntKind.i64 (11 : Int)])
  else
  bif decide ((↑m.length : Int) = (0 : Int)) then
  Q
  (AV.tup
  [AV.agg [AV.bool false, AV.dig [(0 : Nat)] [], AV.num IntKind.i64 (0 : Int)], AV.bool false,
  AV.num IntKind.i64 (0 : Int)])
  else
  bif
  decide
  ((if
  IntKind.i64.wrap
  (IntKind.i64.wrap (IntKind.i64.wrap (k + (1 : Int)) + (↑(Dy.lenN m') : Int)) -
  (↑(Dy.lenN m) : Int)) >
  (0 : Int) then
  IntKind.i64.wrap
  (IntKind.i64.wrap (IntKind.i64.wrap (k + (1 : Int)) + (↑(Dy.lenN m') : Int)) -
  (↑(Dy.lenN m) : Int))
  else (0 : Int)) >
  IntKind.i64.wrap ((131072 : Int) - (↑(Dy.lenN m) : Int))) then
  False
  else
  ∀ (l1 : List Nat),
  l1 =
  (Dy.shiftN m
  (if
  IntKind.i64.wrap
  (IntKind.i64.wrap (IntKind.i64.wrap (k + (1 : Int)) + (↑(Dy.lenN m') : Int)) -
  (↑(Dy.lenN m) : Int)) >
  (0 : Int) then
  IntKind.i64.wrap
  (IntKind.i64.wrap (IntKind.i64.wrap (k + (1 : Int)) + (↑(Dy.lenN m') : Int)) -
  (↑(Dy.lenN m) : Int))
  else (0 : Int))).mag →
  ∀ (b2 : Bool),
  b2 =
  (Dy.shiftN m
  (if
  IntKind.i64.wrap
  (IntKind.i64.wrap (IntKind.i64.wrap (k + (1 : Int)) + (↑(Dy.lenN m') : Int)) -
  (↑(Dy.lenN m) : Int)) >
  (0 : Int) then
  IntKind.i64.wrap
  (IntKind.i64.wrap (IntKind.i64.wrap (k + (1 : Int)) + (↑(Dy.lenN m') : Int)) -
  (↑(Dy.lenN m) : Int))
  else (0 : Int))).lost →
  ∀ (n3 : Int),
  n3 =
  (Dy.shiftN m
  (if
  IntKind.i64.wrap
  (IntKind.i64.wrap (IntKind.i64.wrap (k + (1 : Int)) + (↑(Dy.lenN m') : Int)) -
  (↑(Dy.lenN m) : Int)) >
  (0 : Int) then
  IntKind.i64.wrap
  (IntKind.i64.wrap (IntKind.i64.wrap (k + (1 : Int)) + (↑(Dy.lenN m') : Int)) -
  (↑(Dy.lenN m) : Int))
  else (0 : Int))).err →
  ∀ (l4 : List Nat),
  l4 = (Dy.quoR l1 m').quo →
  ∀ (l5 : List Nat),
  l5 = (Dy.quoR l1 m').rem →
  ∀ (n6 : Int),
  n6 = (Dy.quoR l1 m').err →
  (Dy.may l4 = true ∧
  (-1099511627776 : Int) ≤
  IntKind.i64.wrap
  (IntKind.i64.wrap (e - e') -
  if
  IntKind.i64.wrap
  (IntKind.i64.wrap
  (IntKind.i64.wrap (k + (1 : Int)) + (↑(Dy.lenN m') : Int)) -
  (↑(Dy.lenN m) : Int)) >
  (0 : Int) then
  IntKind.i64.wrap
  (IntKind.i64.wrap
  (IntKind.i64.wrap (k + (1 : Int)) + (↑(Dy.lenN m') : Int)) -
  (↑(Dy.lenN m) : Int))
  else (0 : Int)) ∧
  IntKind.i64.wrap
  (IntKind.i64.wrap (e - e') -
  if
  IntKind.i64.wrap
  (IntKind.i64.wrap
  (IntKind.i64.wrap (k + (1 : Int)) +
  (↑(Dy.lenN m') : Int)) -
  (↑(Dy.lenN m) : Int)) >
  (0 : Int) then
  IntKind.i64.wrap
  (IntKind.i64.wrap
  (IntKind.i64.wrap (k + (1 : Int)) + (↑(Dy.lenN m') : Int)) -
  (↑(Dy.lenN m) : Int))
  else (0 : Int)) ≤
  (1099511627776 : Int) ∧
  (1 : Int) ≤ k ∧ k ≤ (8192 : Int)) ∧
  ∀ (b7 : Bool),
  b7 =
  (Dy.madeD (!s == s') (Dy.val l4)
  (IntKind.i64.wrap
  (IntKind.i64.wrap (e - e') -
  if
  IntKind.i64.wrap
  (IntKind.i64.wrap
  (IntKind.i64.wrap (k + (1 : Int)) +
  (↑(Dy.lenN m') : Int)) -
  (↑(Dy.lenN m) : Int)) >
  (0 : Int) then
  IntKind.i64.wrap
  (IntKind.i64.wrap
  (IntKind.i64.wrap (k + (1 : Int)) +
  (↑(Dy.lenN m') : Int)) -
  (↑(Dy.lenN m) : Int))
  else (0 : Int)))
  (decide ((↑l5.length : Int) > (0 : Int))) k).num.neg →
  ∀ (l8 : List Nat),
  l8 =
  (Dy.madeD (!s == s') (Dy.val l4)
  (IntKind.i64.wrap
  (IntKind.i64.wrap (e - e') -
  if
  IntKind.i64.wrap
  (IntKind.i64.wrap
  (IntKind.i64.wrap (k + (1 : Int)) +
  (↑(Dy.lenN m') : Int)) -
  (↑(Dy.lenN m) : Int)) >
  (0 : Int) then
  IntKind.i64.wrap
  (IntKind.i64.wrap
  (IntKind.i64.wrap (k + (1 : Int)) +
  (↑(Dy.lenN m') : Int)) -
  (↑(Dy.lenN m) : Int))
  else (0 : Int)))
  (decide ((↑l5.length : Int) > (0 : Int))) k).num.mag →
  ∀ (n9 : Int),
  n9 =
  (Dy.madeD (!s == s') (Dy.val l4)
  (IntKind.i64.wrap
  (IntKind.i64.wrap (e - e') -
  if
  IntKind.i64.wrap
  (IntKind.i64.wrap
  (IntKind.i64.wrap (k + (1 : Int)) +
  (↑(Dy.lenN m') : Int)) -
  (↑(Dy.lenN m) : Int)) >
  (0 : Int) then
  IntKind.i64.wrap
  (IntKind.i64.wrap
  (IntKind.i64.wrap (k + (1 : Int)) +
  (↑(Dy.lenN m') : Int)) -
  (↑(Dy.lenN m) : Int))
  else (0 : Int)))
  (decide ((↑l5.length : Int) > (0 : Int))) k).num.exp →
  ∀ (b10 : Bool),
  b10 =
  (Dy.madeD (!s == s') (Dy.val l4)
  (IntKind.i64.wrap
  (IntKind.i64.wrap (e - e') -
  if
  IntKind.i64.wrap
  (IntKind.i64.wrap
  (IntKind.i64.wrap (k + (1 : Int)) +
  (↑(Dy.lenN m') : Int)) -
  (↑(Dy.lenN m) : Int)) >
  (0 : Int) then
  IntKind.i64.wrap
  (IntKind.i64.wrap
  (IntKind.i64.wrap (k + (1 : Int)) +
  (↑(Dy.lenN m') : Int)) -
  (↑(Dy.lenN m) : Int))
  else (0 : Int)))
  (decide ((↑l5.length : Int) > (0 : Int))) k).lost →
  ∀ (n11 : Int),
  n11 =
  (Dy.madeD (!s == s') (Dy.val l4)
  (IntKind.i64.wrap
  (IntKind.i64.wrap (e - e') -
  if
  IntKind.i64.wrap
  (IntKind.i64.wrap
  (IntKind.i64.wrap (k + (1 : Int)) +
  (↑(Dy.lenN m') : Int)) -
  (↑(Dy.lenN m) : Int)) >
  (0 : Int) then
  IntKind.i64.wrap
  (IntKind.i64.wrap
  (IntKind.i64.wrap (k + (1 : Int)) +
  (↑(Dy.lenN m') : Int)) -
  (↑(Dy.lenN m) : Int))
  else (0 : Int)))
  (decide ((↑l5.length : Int) > (0 : Int))) k).err →
  Q
  (AV.tup
  [AV.agg
  [AV.bool b7, AV.dig [(0 : Nat)] l8,
  AV.num IntKind.i64 n9],
  AV.bool b10, AV.num IntKind.i64 n11])) := by kernel_rfl
end Go.AI

namespace Go.Dy
theorem lenN_may {a : List Nat} (h : may a = true) : lenN a = bl (val a) := by unfold lenN; rw [if_pos h]
theorem shiftN_off {a : List Nat} (h : may a = true) (n : Nat) : (shiftN a (-(n : Int))).lost = decide (val a % 2 ^ n ≠ 0) := by
  by_cases h0 : val a = 0
  · unfold shiftN
    rw [if_pos h, if_pos h0, h0, Nat.zero_mod]
    rfl
  · by_cases hn : 0 < n
    · exact shiftN_lost h n h0 hn
    · have hn0 : n = 0 := by omega
      subst hn0
      have hb := may_bl h
      unfold shiftN
      rw [if_pos h, if_neg h0, if_neg (by omega), if_neg (by omega), Nat.pow_zero, Nat.mod_one]
      rfl
theorem shiftN_offu {a : List Nat} (h : may a = true) (n : Nat) (hn : bl (val a) + n ≤ 131072) : (shiftN a (n : Int)).lost = false := by
  unfold shiftN
  rw [if_pos h]
  by_cases h0 : val a = 0
  · rw [if_pos h0]
  · rw [if_neg h0, if_neg (by omega), if_neg (by omega)]
theorem dg_len_dec (n : Nat) : decide (((dg n).length : Int) > 0) = decide (n ≠ 0) := by
  rw [decide_eq_decide]
  constructor
  · intro h e
    rw [e, dg_zero] at h
    exact absurd h (by decide)
  · intro h
    have : dg n ≠ [] := fun e => h (dg_eq_nil.1 e)
    have := List.length_pos_iff.2 this
    omega
theorem isq_le (n : Nat) : isq n ≤ n := Nat.le_trans (Nat.le_mul_self _) (isq_spec n).1
theorem isq_bl {N j : Nat} (h : bl N ≤ 2 * j) : bl (isq N) ≤ j := by
  refine bl_le.2 ?_
  rcases Nat.lt_or_ge (isq N) (2 ^ j) with c | c
  · exact c
  · exfalso
    have h2 := bl_le.1 h
    have h3 := Nat.mul_le_mul c c
    rw [← Nat.pow_add] at h3
    have h1 := (isq_spec N).1
    rw [show 2 * j = j + j by omega] at h2
    omega
theorem tdiv_even {x : Int} (h : x % 2 = 0) : x.tdiv 2 = x / 2 := Int.tdiv_eq_ediv_of_dvd (Int.dvd_of_emod_eq_zero h)
theorem tmod_two (x : Int) : x.tmod 2 = 0 ↔ x % 2 = 0 := ⟨fun h => Int.emod_eq_zero_of_dvd (Int.dvd_of_tmod_eq_zero h), fun h => Int.tmod_eq_zero_of_dvd (Int.dvd_of_emod_eq_zero h)⟩
theorem form_dg {s : Bool} {n : Nat} {e : Int} : dg (val (form s n e).mag) = (form s n e).mag ∧ tz (val (form s n e).mag) = 0 ∧ bl (val (form s n e).mag) ≤ bl n ∧ min e 0 ≤ (form s n e).exp ∧ (form s n e).exp ≤ max 0 (e + bl n) := by
  by_cases h : n = 0
  · subst h
    rw [form_zero]
    refine ⟨rfl, rfl, Nat.le_refl _, ?_, ?_⟩
    · show min e 0 ≤ 0; omega
    · show 0 ≤ max 0 _; omega
  · rw [form_pos h]
    simp only [val_dg]
    have := tz_lt_bl h
    exact ⟨trivial, tz_odd (div_tz_odd h), bl_mono (Nat.div_le_self _ _), by omega, by omega⟩
end Go.Dy
namespace Go.AI
open Go Go.RowKit Go.Proofs
set_option linter.unusedVariables false
set_option maxRecDepth 100000
set_option maxHeartbeats 1000000
theorem and_one (x : Int) : IntKind.i64.wrap (((BitVec.ofInt 64 x &&& BitVec.ofInt 64 1).toNat : Nat) : Int) = x % 2 := by
  have h : (BitVec.ofInt 64 x &&& BitVec.ofInt 64 1).toNat = (x % 18446744073709551616).toNat % 2 := by
    rw [BitVec.toNat_and, BitVec.toNat_ofInt, BitVec.toNat_ofInt]
    show (x % 18446744073709551616).toNat &&& 1 = _
    rw [Nat.and_one_is_mod]
  rw [h, wrap_i64 (by omega) (by omega)]
  omega

theorem ok_dyad_made (args : List AV) (s : Spec) (h : dMade args = some s) (hp : andO s.pre True) : Contract Tryd.prog Inv 86 args s.res := by
  unfold dMade at h
  split at h
  · cases h
    rename_i s q e more k
    obtain ⟨⟨hm, x1, x2, hk1, hk2⟩, -⟩ := hp
    refine contract0 false ok_tabE2 Tryd.func86 (by kernel_rfl) (by kernel_rfl) fun hok => ?_
    have hb := Dy.may_bl hm
    rw [vc_dyad_made, Dy.lenN_may hm]
    unfold Dy.madeD
    obtain ⟨t, ht⟩ : ∃ t : Nat, ((Dy.bl (Dy.val q) : Int) - k).toNat = t := ⟨_, rfl⟩
    have e1 : (if IntKind.i64.wrap ((Dy.bl (Dy.val q) : Int) - k) > 0 then IntKind.i64.wrap ((Dy.bl (Dy.val q) : Int) - k) else 0) = (t : Int) := by
      rw [wrap_i64 (by omega) (by omega)]
      split <;> omega
    rw [e1, ht, wrap_i64 (n := (0 : Int) - t) (by omega) (by omega), Int.zero_sub, wrap_i64 (n := e + t) (by omega) (by omega), Dy.shiftN_neg hm, Dy.shiftN_off hm]
    rintro _ rfl _ rfl _ -
    have hq : Dy.bl (Dy.val q / 2 ^ t) ≤ 131072 := by rw [Dy.bl_div_two_pow]; omega
    rw [Dy.makeD_dg hq]
    rintro _ rfl _ rfl _ rfl _ rfl
    refine cond_i (fun h1 => ?_) (fun h1 => ?_)
    · simp only [Bool.not_eq_true', decide_eq_false_iff_not] at h1
      rw [if_neg h1]
      rfl
    · simp only [Bool.not_eq_false', decide_eq_true_eq] at h1
      rw [if_pos h1]
      refine cond_i (fun h2 => ?_) (fun h2 => ?_)
      · rw [h2]; rfl
      · rw [h2]; rfl
  · cases h
theorem ok_tabF0 : PhiOk Tryd.prog Inv (look tabF0) := look_cons ok_tabE2 ok_dyad_made

theorem ok_dyad_Quo (args : List AV) (s : Spec) (h : dQuo args = some s) (hp : andO s.pre True) : Contract Tryd.prog Inv 72 args s.res := by
  unfold dQuo at h
  split at h
  · cases h
    rename_i s m e s' m' e' k
    obtain ⟨⟨hl, hl'⟩, -⟩ := hp
    refine contract0 false ok_tabF0 Tryd.func72 (by kernel_rfl) (by kernel_rfl) fun hok => ?_
    rw [vc_dyad_Quo]
    unfold Dy.quoD
    simp only
    refine cond_i (fun h => ?_) (fun h => ?_)
    · simp only [Bool.not_eq_true'] at h
      rw [h]; rfl
    simp only [Bool.not_eq_false'] at h
    rw [h]
    simp only [Bool.true_and]
    obtain ⟨hd, hd'⟩ := (Bool.and_eq_true _ _ ▸ h : _ ∧ _)
    refine cond_i (fun h1 => ?_) (fun h1 => ?_)
    · have h1 := of_decide_eq_true h1
      rw [if_neg (by rw [decide_eq_true_eq]; omega)]
      rfl
    have h1 := of_decide_eq_false h1
    rw [if_pos (decide_eq_true (by omega))]
    refine cond_i (fun h2 => ?_) (fun h2 => ?_)
    · simp only [Bool.not_eq_true', decide_eq_false_iff_not] at h2
      unfold Dy.askD at h2 ⊢
      rw [if_neg h1] at h2 ⊢
      by_cases c : 8192 < k
      · rw [if_pos c, if_neg (by omega)]; rfl
      · rw [if_neg c] at h2; exact absurd rfl h2
    simp only [Bool.not_eq_false', decide_eq_true_eq] at h2
    have hk : k ≤ 8192 := by
      unfold Dy.askD at h2
      rw [if_neg h1] at h2
      by_cases c : 8192 < k
      · rw [if_pos c] at h2; exact absurd h2 (by decide)
      · omega
    rw [if_pos hk]
    refine cond_i (fun h3 => ?_) (fun h3 => cond_i (fun h4 => ?_) (fun h4 => ?_))
    · have h3 := List.length_eq_zero_iff.1 (Int.ofNat_eq_zero.1 (of_decide_eq_true h3))
      rw [if_pos h3]; rfl
    · have h3 := of_decide_eq_false h3
      have h4 := List.length_eq_zero_iff.1 (Int.ofNat_eq_zero.1 (of_decide_eq_true h4))
      rw [if_neg (fun e => h3 (by rw [e]; rfl)), if_pos h4]; rfl
    · have h3 := of_decide_eq_false h3
      have h4 := of_decide_eq_false h4
      have m0' : m' ≠ [] := fun e => h3 (by rw [e]; rfl)
      have m0 : m ≠ [] := fun e => h4 (by rw [e]; rfl)
      rw [if_neg m0', if_neg m0]
      have may1 := Dy.mayD_may hd
      have may2 := Dy.mayD_may hd'
      have x1 := Dy.mayD_exp hd
      have x2 := Dy.mayD_exp hd'
      have v2 := Dy.val_ne may2 m0'
      have b1 : Dy.bl (Dy.val m) ≤ 32000 := (Dy.length_dg_bl (n := Dy.val m) (k := 1000)).1 (by rw [Dy.may_dg may1]; exact hl)
      have b2 : Dy.bl (Dy.val m') ≤ 32000 := (Dy.length_dg_bl (n := Dy.val m') (k := 1000)).1 (by rw [Dy.may_dg may2]; exact hl')
      rw [Dy.lenN_may may1, Dy.lenN_may may2]
      have hqs : Dy.quoS (Dy.val m) (Dy.val m') k = (k + 1 + (Dy.bl (Dy.val m') : Int) - (Dy.bl (Dy.val m) : Int)).toNat := rfl
      generalize Dy.quoS (Dy.val m) (Dy.val m') k = n at hqs ⊢
      have e1 : (if IntKind.i64.wrap (IntKind.i64.wrap (IntKind.i64.wrap (k + 1) + (Dy.bl (Dy.val m') : Int)) - (Dy.bl (Dy.val m) : Int)) > 0 then IntKind.i64.wrap (IntKind.i64.wrap (IntKind.i64.wrap (k + 1) + (Dy.bl (Dy.val m') : Int)) - (Dy.bl (Dy.val m) : Int)) else 0) = (n : Int) := by
        rw [wrap_i64 (n := k + 1) (by omega) (by omega), wrap_i64 (n := k + 1 + _) (by omega) (by omega), wrap_i64 (by omega) (by omega)]
        split <;> omega
      rw [e1, wrap_i64 (n := (131072 : Int) - _) (by omega) (by omega), wrap_i64 (n := e - e') (by omega) (by omega), wrap_i64 (n := e - e' - _) (by omega) (by omega), Dy.shiftN_up may1 n (by omega)]
      refine cond_f (decide_eq_false (by omega)) ?_
      rintro _ rfl _ - _ -
      have hX : Dy.bl (Dy.val m * 2 ^ n) ≤ 131072 := Nat.le_trans (Dy.bl_mul_le b1) (by omega)
      have may3 : Dy.may (Dy.dg (Dy.val m * 2 ^ n)) = true := Dy.may_dgn.2 (Dy.len_bl.2 hX)
      have hq : Dy.quoR (Dy.dg (Dy.val m * 2 ^ n)) m' = ⟨Dy.dg (Dy.val m * 2 ^ n / Dy.val m'), Dy.dg (Dy.val m * 2 ^ n % Dy.val m'), 0⟩ := by
        unfold Dy.quoR
        rw [may3, may2, if_pos (show (true && true) = true from rfl), if_neg v2, Dy.val_dg]
      rw [hq]
      have hQ : Dy.bl (Dy.val m * 2 ^ n / Dy.val m') ≤ 131072 := Nat.le_trans (Dy.bl_mono (Nat.div_le_self _ _)) hX
      rintro _ rfl _ rfl _ -
      refine ⟨⟨Dy.may_dgn.2 (Dy.len_bl.2 hQ), by omega, by omega, by omega, hk⟩, ?_⟩
      rw [Dy.val_dg, Dy.dg_len_dec]
      rintro _ rfl _ rfl _ rfl _ rfl _ rfl
      rfl
  · cases h

theorem root_tail {m : List Nat} {e k n : Int} (may1 : Dy.may m = true) (x1 : -16777216 ≤ e ∧ e ≤ 16777216) (hk1 : 1 ≤ k) (hk : k ≤ 8192) (hn1 : -200000 ≤ n) (hn2 : (Dy.bl (Dy.val m) : Int) + n ≤ 131072) (hn3 : (e - n) % 2 = 0)
    {Q : AV → Prop} (hQ : Q (.tup [avD [0] (Dy.madeD false (Dy.isq (Dy.sh2 (Dy.val m) n)) ((e - n) / 2) (Dy.fell (Dy.val m) n || decide (Dy.isq (Dy.sh2 (Dy.val m) n) * Dy.isq (Dy.sh2 (Dy.val m) n) ≠ Dy.sh2 (Dy.val m) n)) k).num,
      .bool (Dy.madeD false (Dy.isq (Dy.sh2 (Dy.val m) n)) ((e - n) / 2) (Dy.fell (Dy.val m) n || decide (Dy.isq (Dy.sh2 (Dy.val m) n) * Dy.isq (Dy.sh2 (Dy.val m) n) ≠ Dy.sh2 (Dy.val m) n)) k).lost,
      .num .i64 (Dy.madeD false (Dy.isq (Dy.sh2 (Dy.val m) n)) ((e - n) / 2) (Dy.fell (Dy.val m) n || decide (Dy.isq (Dy.sh2 (Dy.val m) n) * Dy.isq (Dy.sh2 (Dy.val m) n) ≠ Dy.sh2 (Dy.val m) n)) k).err])) :
    ∀ l1, l1 = (Dy.shiftN m n).mag → ∀ b2, b2 = (Dy.shiftN m n).lost → ∀ n3, n3 = (Dy.shiftN m n).err → ∀ l4, l4 = (Dy.rootR l1).mag → ∀ b5, b5 = (Dy.rootR l1).exact → ∀ n6, n6 = (Dy.rootR l1).err →
      bif b2 then (Dy.may l4 = true ∧ -1099511627776 ≤ IntKind.i64.wrap ((IntKind.i64.wrap (e - n)).tdiv 2) ∧ IntKind.i64.wrap ((IntKind.i64.wrap (e - n)).tdiv 2) ≤ 1099511627776 ∧ 1 ≤ k ∧ k ≤ 8192) ∧
        ∀ b7, b7 = (Dy.madeD false (Dy.val l4) (IntKind.i64.wrap ((IntKind.i64.wrap (e - n)).tdiv 2)) true k).num.neg → ∀ l8, l8 = (Dy.madeD false (Dy.val l4) (IntKind.i64.wrap ((IntKind.i64.wrap (e - n)).tdiv 2)) true k).num.mag →
        ∀ n9, n9 = (Dy.madeD false (Dy.val l4) (IntKind.i64.wrap ((IntKind.i64.wrap (e - n)).tdiv 2)) true k).num.exp → ∀ b10, b10 = (Dy.madeD false (Dy.val l4) (IntKind.i64.wrap ((IntKind.i64.wrap (e - n)).tdiv 2)) true k).lost →
        ∀ n11, n11 = (Dy.madeD false (Dy.val l4) (IntKind.i64.wrap ((IntKind.i64.wrap (e - n)).tdiv 2)) true k).err → Q (.tup [.agg [.bool b7, .dig [0] l8, .num .i64 n9], .bool b10, .num .i64 n11])
      else (Dy.may l4 = true ∧ -1099511627776 ≤ IntKind.i64.wrap ((IntKind.i64.wrap (e - n)).tdiv 2) ∧ IntKind.i64.wrap ((IntKind.i64.wrap (e - n)).tdiv 2) ≤ 1099511627776 ∧ 1 ≤ k ∧ k ≤ 8192) ∧
        ∀ b7, b7 = (Dy.madeD false (Dy.val l4) (IntKind.i64.wrap ((IntKind.i64.wrap (e - n)).tdiv 2)) (!b5) k).num.neg → ∀ l8, l8 = (Dy.madeD false (Dy.val l4) (IntKind.i64.wrap ((IntKind.i64.wrap (e - n)).tdiv 2)) (!b5) k).num.mag →
        ∀ n9, n9 = (Dy.madeD false (Dy.val l4) (IntKind.i64.wrap ((IntKind.i64.wrap (e - n)).tdiv 2)) (!b5) k).num.exp → ∀ b10, b10 = (Dy.madeD false (Dy.val l4) (IntKind.i64.wrap ((IntKind.i64.wrap (e - n)).tdiv 2)) (!b5) k).lost →
        ∀ n11, n11 = (Dy.madeD false (Dy.val l4) (IntKind.i64.wrap ((IntKind.i64.wrap (e - n)).tdiv 2)) (!b5) k).err → Q (.tup [.agg [.bool b7, .dig [0] l8, .num .i64 n9], .bool b10, .num .i64 n11]) := by
  have hb := Dy.may_bl may1
  have we : IntKind.i64.wrap ((IntKind.i64.wrap (e - n)).tdiv 2) = (e - n) / 2 := by
    rw [wrap_i64 (n := e - n) (by omega) (by omega)]
    rw [Dy.tdiv_even hn3, wrap_i64 (by omega) (by omega)]
  have hsh : (Dy.shiftN m n).mag = Dy.dg (Dy.sh2 (Dy.val m) n) ∧ (Dy.shiftN m n).lost = Dy.fell (Dy.val m) n ∧ Dy.bl (Dy.sh2 (Dy.val m) n) ≤ 131072 := by
    unfold Dy.sh2 Dy.fell
    by_cases c : n < 0
    · obtain ⟨j, hj⟩ : ∃ j : Nat, n = -(j : Int) := ⟨(-n).toNat, by omega⟩
      subst hj
      rw [if_pos c, Int.neg_neg, Int.toNat_natCast]
      refine ⟨Dy.shiftN_neg may1 j, ?_, Nat.le_trans (Dy.bl_mono (Nat.div_le_self _ _)) hb⟩
      rw [Dy.shiftN_off may1, decide_eq_decide]
      exact ⟨fun h => ⟨c, h⟩, fun h => h.2⟩
    · obtain ⟨j, hj⟩ : ∃ j : Nat, n = (j : Int) := ⟨n.toNat, by omega⟩
      subst hj
      rw [if_neg c, Int.toNat_natCast]
      refine ⟨Dy.shiftN_up may1 j (by omega), ?_, Nat.le_trans (Dy.bl_mul_le (Nat.le_refl _)) (by omega)⟩
      rw [Dy.shiftN_offu may1 j (by omega), decide_eq_false (fun h => c h.1)]
  obtain ⟨h1, h2, h3⟩ := hsh
  rw [we, h1, h2]
  generalize Dy.sh2 (Dy.val m) n = X at *
  generalize Dy.fell (Dy.val m) n = f at *
  rintro _ rfl _ rfl _ -
  have hr : Dy.rootR (Dy.dg X) = ⟨Dy.dg (Dy.isq X), decide (Dy.isq X * Dy.isq X = X), 0⟩ := by
    unfold Dy.rootR
    rw [if_pos (Dy.may_dgn.2 (Dy.len_bl.2 h3)), Dy.val_dg]
  rw [hr]
  rintro _ rfl _ rfl _ -
  have hq : Dy.may (Dy.dg (Dy.isq X)) = true := Dy.may_dgn.2 (Dy.len_bl.2 (Nat.le_trans (Dy.bl_mono (Dy.isq_le X)) h3))
  rw [Dy.val_dg]
  have hdn : (!decide (Dy.isq X * Dy.isq X = X)) = decide (Dy.isq X * Dy.isq X ≠ X) := by simp
  simp only
  rw [hdn]
  refine cond_i (fun c => ?_) (fun c => ?_)
  · refine ⟨⟨hq, by omega, by omega, hk1, hk⟩, ?_⟩
    rw [c] at hQ
    rintro _ rfl _ rfl _ rfl _ rfl _ rfl
    exact hQ
  · refine ⟨⟨hq, by omega, by omega, hk1, hk⟩, ?_⟩
    rw [c] at hQ
    rintro _ rfl _ rfl _ rfl _ rfl _ rfl
    exact hQ

/-- from the form on: a number, cut -/
theorem form_tail {q : Nat} {neg x : Bool} {u k : Int} (hq : Dy.bl q ≤ 131072) (hu : -100000000 ≤ u ∧ u ≤ 100000000) (hk : 1 ≤ k) {Q : AV → Prop} (hQ : Q (.tup [avD [0] (Dy.cutR (Dy.form neg q u) k).1, .bool ((Dy.cutR (Dy.form neg q u) k).2 || x)])) :
    (Dy.dg (Dy.val (Dy.dg q)) = Dy.dg q ∧ (Dy.dg q).length ≤ 1048576 ∧ -1099511627776 ≤ u ∧ u ≤ 1099511627776) ∧
    ∀ b3, b3 = (Dy.form neg (Dy.val (Dy.dg q)) u).neg → ∀ l4, l4 = (Dy.form neg (Dy.val (Dy.dg q)) u).mag → ∀ n5, n5 = (Dy.form neg (Dy.val (Dy.dg q)) u).exp →
      (Dy.dg (Dy.val l4) = l4 ∧ l4.length ≤ 4096 ∧ Dy.tz (Dy.val l4) = 0 ∧ -1099511627776 ≤ n5 ∧ n5 + 131072 ≤ 1099511627776 ∧ 1 ≤ k) ∧
      ∀ b6, b6 = (Dy.cutR (Dy.Dyd.mk b3 l4 n5) k).1.neg → ∀ l7, l7 = (Dy.cutR (Dy.Dyd.mk b3 l4 n5) k).1.mag → ∀ n8, n8 = (Dy.cutR (Dy.Dyd.mk b3 l4 n5) k).1.exp → ∀ b9, b9 = (Dy.cutR (Dy.Dyd.mk b3 l4 n5) k).snd →
        bif b9 then Q (.tup [.agg [.bool b6, .dig [0] l7, .num .i64 n8], .bool true]) else Q (.tup [.agg [.bool b6, .dig [0] l7, .num .i64 n8], .bool x]) := by
  refine ⟨⟨by rw [Dy.val_dg], Dy.dg_len (by omega), by omega, by omega⟩, ?_⟩
  rw [Dy.val_dg]
  obtain ⟨f1, f2, f3, f4, f5⟩ := Dy.form_dg (s := neg) (n := q) (e := u)
  rintro _ rfl _ rfl _ rfl
  have hl : (Dy.form neg q u).mag.length ≤ 4096 := by
    rw [← f1]
    exact Dy.len_bl.2 (by omega)
  refine ⟨⟨f1, hl, f2, by omega, by omega, hk⟩, ?_⟩
  rintro _ rfl _ rfl _ rfl _ rfl
  refine cond_i (fun c => ?_) (fun c => ?_)
  · have c : (Dy.cutR (Dy.form neg q u) k).2 = true := c
    rw [c] at hQ
    exact hQ
  · have c : (Dy.cutR (Dy.form neg q u) k).2 = false := c
    rw [c] at hQ
    exact hQ

theorem rquo_tail {N : Nat} {m' : List Nat} {neg : Bool} {u k : Int} (hm : Dy.may m' = true) (h0 : m' ≠ []) (hN : Dy.bl N ≤ 131072) (hu : -100000000 ≤ u ∧ u ≤ 100000000) (hk : 1 ≤ k)
    {Q : AV → Prop} (hQ : Q (.tup [avD [0] (Dy.cutR (Dy.form neg (N / Dy.val m') u) k).1, .bool ((Dy.cutR (Dy.form neg (N / Dy.val m') u) k).2 || decide (N % Dy.val m' ≠ 0))])) :
    (Dy.dg (Dy.val (Dy.dg N)) = Dy.dg N ∧ Dy.dg (Dy.val m') = m' ∧ m' ≠ [] ∧ (Dy.dg N).length ≤ 100000 ∧ m'.length ≤ 100000) ∧
    ∀ l1, l1 = Dy.dg (Dy.val (Dy.dg N) / Dy.val m') → ∀ l2, l2 = Dy.dg (Dy.val (Dy.dg N) % Dy.val m') →
    (Dy.dg (Dy.val l1) = l1 ∧ l1.length ≤ 1048576 ∧ -1099511627776 ≤ u ∧ u ≤ 1099511627776) ∧
    ∀ b3, b3 = (Dy.form neg (Dy.val l1) u).neg → ∀ l4, l4 = (Dy.form neg (Dy.val l1) u).mag → ∀ n5, n5 = (Dy.form neg (Dy.val l1) u).exp →
      (Dy.dg (Dy.val l4) = l4 ∧ l4.length ≤ 4096 ∧ Dy.tz (Dy.val l4) = 0 ∧ -1099511627776 ≤ n5 ∧ n5 + 131072 ≤ 1099511627776 ∧ 1 ≤ k) ∧
      ∀ b6, b6 = (Dy.cutR (Dy.Dyd.mk b3 l4 n5) k).1.neg → ∀ l7, l7 = (Dy.cutR (Dy.Dyd.mk b3 l4 n5) k).1.mag → ∀ n8, n8 = (Dy.cutR (Dy.Dyd.mk b3 l4 n5) k).1.exp → ∀ b9, b9 = (Dy.cutR (Dy.Dyd.mk b3 l4 n5) k).snd →
        bif b9 then Q (.tup [.agg [.bool b6, .dig [0] l7, .num .i64 n8], .bool true]) else Q (.tup [.agg [.bool b6, .dig [0] l7, .num .i64 n8], .bool (decide ((l2.length : Int) > 0))]) := by
  refine ⟨⟨by rw [Dy.val_dg], Dy.may_dg hm, h0, ?_, by have := Dy.may_len hm; omega⟩, ?_⟩
  · have := Dy.len_bl.2 hN; omega
  rw [Dy.val_dg]
  rintro _ rfl _ rfl
  rw [Dy.dg_len_dec]
  exact form_tail (Nat.le_trans (Dy.bl_mono (Nat.div_le_self _ _)) hN) hu hk hQ

theorem rroot_tail {N : Nat} {u k : Int} (hN : Dy.bl N ≤ 160000) (hu : -100000000 ≤ u ∧ u ≤ 100000000) (hk : 1 ≤ k)
    {Q : AV → Prop} (hQ : Q (.tup [avD [0] (Dy.cutR (Dy.form false (Dy.isq N) u) k).1, .bool ((Dy.cutR (Dy.form false (Dy.isq N) u) k).2 || decide (Dy.isq N * Dy.isq N ≠ N))])) :
    (Dy.dg (Dy.val (Dy.dg N)) = Dy.dg N ∧ (Dy.dg N).length ≤ 100000) ∧
    ∀ l1, l1 = Dy.dg (Dy.isq (Dy.val (Dy.dg N))) → ∀ b2, b2 = decide (Dy.isq (Dy.val (Dy.dg N)) * Dy.isq (Dy.val (Dy.dg N)) = Dy.val (Dy.dg N)) →
    (Dy.dg (Dy.val l1) = l1 ∧ l1.length ≤ 1048576 ∧ -1099511627776 ≤ u ∧ u ≤ 1099511627776) ∧
    ∀ b3, b3 = (Dy.form false (Dy.val l1) u).neg → ∀ l4, l4 = (Dy.form false (Dy.val l1) u).mag → ∀ n5, n5 = (Dy.form false (Dy.val l1) u).exp →
      (Dy.dg (Dy.val l4) = l4 ∧ l4.length ≤ 4096 ∧ Dy.tz (Dy.val l4) = 0 ∧ -1099511627776 ≤ n5 ∧ n5 + 131072 ≤ 1099511627776 ∧ 1 ≤ k) ∧
      ∀ b6, b6 = (Dy.cutR (Dy.Dyd.mk b3 l4 n5) k).1.neg → ∀ l7, l7 = (Dy.cutR (Dy.Dyd.mk b3 l4 n5) k).1.mag → ∀ n8, n8 = (Dy.cutR (Dy.Dyd.mk b3 l4 n5) k).1.exp → ∀ b9, b9 = (Dy.cutR (Dy.Dyd.mk b3 l4 n5) k).snd →
        bif b9 then Q (.tup [.agg [.bool b6, .dig [0] l7, .num .i64 n8], .bool true]) else Q (.tup [.agg [.bool b6, .dig [0] l7, .num .i64 n8], .bool !b2]) := by
  refine ⟨⟨by rw [Dy.val_dg], ?_⟩, ?_⟩
  · exact Nat.le_trans (Dy.length_dg_bl (k := 5000).2 (by omega)) (by omega)
  rw [Dy.val_dg]
  rintro _ rfl _ rfl
  have hdn : (!decide (Dy.isq N * Dy.isq N = N)) = decide (Dy.isq N * Dy.isq N ≠ N) := by simp
  rw [hdn]
  exact form_tail (Dy.isq_bl (by omega)) hu hk hQ

theorem ok_tabF : PhiOk Tryd.prog Inv (look tabF) := look_cons (ok_tabF0) ok_dyad_Quo
end Go.AI

namespace Go.Dy
theorem form_cut {s : Bool} {q : Nat} {e : Int} {t : Nat} (h : q % 2 ^ t = 0) : form s (q / 2 ^ t) (e + t) = form s q e := by
  rw [← form_mul, Nat.div_mul_cancel (Nat.dvd_of_mod_eq_zero h)]
/-- a form cut: its magnitude is the magnitude's head -/
theorem cutR_form (s : Bool) (q : Nat) (e k : Int) (hk : 1 ≤ k) :
    cutR (form s q e) k = (form s (q / 2 ^ ((bl q : Int) - k).toNat) (e + (((bl q : Int) - k).toNat : Int)), decide (q % 2 ^ ((bl q : Int) - k).toNat ≠ 0)) := by
  generalize ht : ((bl q : Int) - k).toNat = t
  by_cases h0 : q = 0
  · subst h0
    rw [Nat.zero_div, Nat.zero_mod, form_zero, form_zero]
    unfold cutR overD
    rw [if_pos (by show (0 : Int) - k ≤ 0; omega)]
    rfl
  · have hz := tz_lt_bl h0
    have hb : bl (q / 2 ^ tz q) = bl q - tz q := bl_div_two_pow q (tz q)
    have hd := dvd_iff_le_tz h0 t
    have ho : overD (form s q e) k = (bl q : Int) - tz q - k := by
      rw [form_pos h0]
      unfold overD
      simp only [val_dg]
      rw [hb]
      omega
    unfold cutR
    by_cases c : t ≤ tz q
    · rw [if_pos (by omega), form_cut (hd.2 c), decide_eq_false (by simpa using hd.2 c)]
    · rw [if_neg (by omega), decide_eq_true (show q % 2 ^ t ≠ 0 from fun h => c (hd.1 h))]
      congr 1
      unfold headD
      rw [ho, form_pos h0]
      simp only [val_dg]
      have : ((bl q : Int) - tz q - k).toNat = t - tz q := by omega
      rw [this, Nat.div_div_eq_div_mul, ← Nat.pow_add, show tz q + (t - tz q) = t by omega, show e + (tz q : Int) + ((bl q : Int) - tz q - k) = e + (t : Int) by omega]
theorem form_mag (s : Bool) (q : Nat) (e : Int) : bl (val (form s q e).mag) ≤ bl q := form_dg.2.2.1
/-- what is made, is the form, cut -/
theorem madeD_eq (s : Bool) (q : Nat) (e : Int) (more : Bool) (k : Int) (hk1 : 1 ≤ k) (hk : k ≤ 8192) :
    madeD s q e more k = if inside (cutR (form s q e) k).1.exp then ⟨(cutR (form s q e) k).1, (cutR (form s q e) k).2 || more, 0⟩ else ⟨zeroD, false, 20⟩ := by
  rw [cutR_form s q e k hk1]
  unfold madeD
  generalize ht : ((bl q : Int) - k).toNat = t
  have hb : bl (q / 2 ^ t) ≤ 131072 := by rw [bl_div_two_pow]; omega
  obtain ⟨f1, f2, f3, f4, f5⟩ := form_dg (s := s) (n := q / 2 ^ t) (e := e + t)
  have hl : (form s (q / 2 ^ t) (e + t)).mag.length ≤ 4096 := by
    rw [← f1]
    exact len_bl.2 (by omega)
  have hB : boundD (form s (q / 2 ^ t) (e + t)) = if inside (form s (q / 2 ^ t) (e + t)).exp then (form s (q / 2 ^ t) (e + t), 0) else (zeroD, 20) := by
    unfold boundD
    rw [if_pos hl]
  rw [hB]
  simp only
  cases inside (form s (q / 2 ^ t) (e + t)).exp with
  | true => simp
  | false => simp
/-- a root of a head is the head of the root -/
theorem isq_div (X j : Nat) : isq (X / 2 ^ (2 * j)) = isq X / 2 ^ j := by
  have hp := Nat.two_pow_pos j
  have e2 : 2 ^ (2 * j) = 2 ^ j * 2 ^ j := by rw [← Nat.pow_add, show 2 * j = j + j by omega]
  rw [e2]
  obtain ⟨h1, h2⟩ := isq_spec X
  generalize hP : 2 ^ j = P at *
  have hPP : 0 < P * P := Nat.mul_pos hp hp
  have hd := Nat.div_add_mod (isq X) P
  have hm := Nat.mod_lt (isq X) hp
  generalize isq X = r at *
  generalize hw : r / P = w at *
  refine isq_uniq ?_ ?_
  · rw [Nat.le_div_iff_mul_le hPP]
    have : P * w ≤ r := by omega
    have h3 := Nat.mul_le_mul this this
    rw [Nat.mul_mul_mul_comm] at h3
    rw [Nat.mul_comm (w * w)]
    omega
  · rw [Nat.div_lt_iff_lt_mul hPP]
    have : r + 1 ≤ P * (w + 1) := by rw [Nat.mul_add]; omega
    have h3 := Nat.mul_le_mul this this
    rw [Nat.mul_mul_mul_comm P] at h3
    rw [Nat.mul_comm ((w + 1) * (w + 1))]
    omega
theorem root_lost (X j t : Nat) : (decide (isq X / 2 ^ j % 2 ^ t ≠ 0) || (decide (X % 2 ^ (2 * j) ≠ 0) || decide (isq X / 2 ^ j * (isq X / 2 ^ j) ≠ X / 2 ^ (2 * j)))) = (decide (isq X % 2 ^ (j + t) ≠ 0) || decide (isq X * isq X ≠ X)) := by
  have e2 : 2 ^ (2 * j) = 2 ^ j * 2 ^ j := by rw [← Nat.pow_add, show 2 * j = j + j by omega]
  have hi := isq_div X j
  rw [Bool.eq_iff_iff]
  simp only [Bool.or_eq_true, decide_eq_true_eq]
  have key : (isq X % 2 ^ (j + t) = 0 ∧ isq X * isq X = X) ↔ (isq X / 2 ^ j % 2 ^ t = 0 ∧ X % 2 ^ (2 * j) = 0 ∧ isq X / 2 ^ j * (isq X / 2 ^ j) = X / 2 ^ (2 * j)) := by
    have hp := Nat.two_pow_pos j
    rw [e2] at hi ⊢
    rw [Nat.pow_add]
    generalize 2 ^ j = P at *
    generalize 2 ^ t = T at *
    constructor
    · rintro ⟨h1, h2⟩
      obtain ⟨w, hw⟩ := Nat.dvd_of_mod_eq_zero h1
      have e3 : isq X / P = T * w := by rw [hw, Nat.mul_assoc, Nat.mul_div_cancel_left _ hp]
      have e4 : X = P * P * (T * w * (T * w)) := by
        rw [Nat.mul_mul_mul_comm P P, ← Nat.mul_assoc P T w, ← hw]
        exact h2.symm
      refine ⟨by rw [e3, Nat.mul_mod_right], ?_, ?_⟩
      · rw [e4, Nat.mul_mod_right]
      · rw [e3]
        conv => rhs; rw [e4]
        rw [Nat.mul_div_cancel_left _ (Nat.mul_pos hp hp)]
    · rintro ⟨h1, h2, h3⟩
      obtain ⟨w, hw⟩ := Nat.dvd_of_mod_eq_zero h1
      obtain ⟨v, hv⟩ := Nat.dvd_of_mod_eq_zero h2
      rw [hv, Nat.mul_div_cancel_left _ (Nat.mul_pos hp hp), ← hv, hw] at h3
      have e4 : X = (P * T * w) * (P * T * w) := by
        rw [hv, ← h3, Nat.mul_assoc P T w, Nat.mul_mul_mul_comm P (T * w)]
      have e5 : isq X = P * T * w := by
        refine isq_uniq (by omega) ?_
        rw [e4]
        exact Nat.mul_lt_mul'' (by omega) (by omega)
      refine ⟨by rw [e5, Nat.mul_mod_right], by rw [e5]; exact e4.symm⟩
  constructor
  · intro h
    refine Decidable.byContradiction fun c => ?_
    have := key.1 ⟨Decidable.byContradiction fun d => c (.inl d), Decidable.byContradiction fun d => c (.inr d)⟩
    rcases h with h | h | h
    · exact h this.1
    · exact h this.2.1
    · exact h this.2.2
  · intro h
    refine Decidable.byContradiction fun c => ?_
    have := key.2 ⟨Decidable.byContradiction fun d => c (.inl d), Decidable.byContradiction fun d => c (.inr (.inl d)), Decidable.byContradiction fun d => c (.inr (.inr d))⟩
    rcases h with h | h
    · exact h this.1
    · exact h this.2
/-- the quotient is the document's, if that may be -/
theorem quoD_eq {a b : Dyd} {k : Int} (ha : mayD a = true) (hb : mayD b = true) (h0 : b.mag ≠ []) (hk1 : 1 ≤ k) (hk : k ≤ 8192) :
    quoD a b k = if inside (quoF a b k).1.exp then ⟨(quoF a b k).1, (quoF a b k).2, 0⟩ else ⟨zeroD, false, 20⟩ := by
  unfold quoD quoF
  rw [ha, hb, if_pos (by simpa using hk1), if_pos hk, if_neg h0]
  by_cases c : a.mag = []
  · rw [if_pos c, if_pos c]
    rfl
  · rw [if_neg c, if_neg c, madeD_eq _ _ _ _ _ hk1 hk]
theorem evenS_spec (e n : Int) : (e - evenS e n) % 2 = 0 ∧ n ≤ evenS e n ∧ evenS e n ≤ n + 1 := by
  unfold evenS
  split <;> omega
theorem rootD_eq {d : Dyd} {k : Int} (hd : mayD d = true) (hn : d.neg = false) (h0 : d.mag ≠ []) (hk1 : 1 ≤ k) (hk : k ≤ 8192) :
    rootD d k = if inside (rootF d k).1.exp then ⟨(rootF d k).1, (rootF d k).2, 0⟩ else ⟨zeroD, false, 20⟩ := by
  obtain ⟨s, m, e⟩ := d
  have h0 : m ≠ [] := h0
  have hn : s = false := hn
  subst hn
  have hm := val_ne (mayD_may hd) h0
  unfold rootD
  rw [hd, if_pos (by simpa using hk1), if_pos hk, if_neg h0]
  simp only [Bool.false_eq_true, if_false]
  rw [madeD_eq _ _ _ _ _ hk1 hk]
  unfold rootF
  simp only
  have hS : rootS (val m) e k = evenS e (2 * k + 2 - (bl (val m) : Int)) := rfl
  obtain ⟨hS1, hS2, hS3⟩ := evenS_spec e (2 * k + 2 - (bl (val m) : Int))
  rw [← hS] at hS1 hS2 hS3
  obtain ⟨hZ1, hZ2, hZ3⟩ := evenS_spec e (if 2 * k + 2 - (bl (val m) : Int) < 0 then 0 else 2 * k + 2 - (bl (val m) : Int))
  have hZ : rootZ (val m) e k = (evenS e (if 2 * k + 2 - (bl (val m) : Int) < 0 then 0 else 2 * k + 2 - (bl (val m) : Int))).toNat := rfl
  generalize hz0 : (if 2 * k + 2 - (bl (val m) : Int) < 0 then (0 : Int) else 2 * k + 2 - (bl (val m) : Int)) = z0 at hZ hZ1 hZ2 hZ3
  have hz1 : 0 ≤ z0 ∧ 2 * k + 2 - (bl (val m) : Int) ≤ z0 ∧ (0 ≤ 2 * k + 2 - (bl (val m) : Int) → z0 = 2 * k + 2 - (bl (val m) : Int)) := by
    rw [← hz0]
    split <;> omega
  have hpar : ¬ (2 * k + 2 - (bl (val m) : Int) < 0) → (evenS e z0) = rootS (val m) e k := fun c => by rw [hS, hz1.2.2 (by omega)]
  generalize rootS (val m) e k = n at *
  generalize hzz : evenS e z0 = z at *
  rw [hZ]
  generalize hM : val m = M at *
  by_cases c : n < 0
  · -- bits fall off in the one, in the other none
    obtain ⟨j, hj⟩ : ∃ j : Nat, z = n + 2 * (j : Int) := ⟨((z - n) / 2).toNat, by
      have hzn : n ≤ z := by
        by_cases c2 : 2 * k + 2 - (bl M : Int) < 0
        · omega
        · omega
      omega⟩
    obtain ⟨u, hu⟩ : ∃ u : Nat, z = (u : Int) := ⟨z.toNat, by omega⟩
    have hX : sh2 M n = M * 2 ^ u / 2 ^ (2 * j) := by
      unfold sh2
      rw [if_pos c, show 2 * j = u + (-n).toNat by omega, Nat.pow_add, ← Nat.div_div_eq_div_mul, Nat.mul_div_cancel _ (Nat.two_pow_pos _)]
    have hF : fell M n = decide (M * 2 ^ u % 2 ^ (2 * j) ≠ 0) := by
      unfold fell
      rw [decide_eq_decide, show 2 * j = u + (-n).toNat by omega, Nat.pow_add, Nat.mul_comm M, Nat.mul_mod_mul_left]
      have := Nat.two_pow_pos u
      constructor
      · rintro ⟨-, h⟩ h2
        rcases Nat.mul_eq_zero.1 h2 with h3 | h3
        · omega
        · exact h h3
      · intro h
        exact ⟨c, fun h2 => h (by rw [h2, Nat.mul_zero])⟩
    rw [hX, hF, isq_div, hu, Int.toNat_natCast, cutR_form _ _ _ _ hk1, cutR_form _ _ _ _ hk1]
    have hbn : bl (isq (M * 2 ^ u) / 2 ^ j) = bl (isq (M * 2 ^ u)) - j := bl_div_two_pow _ _
    -- enough bits stay
    have hlow : k < (bl (isq (M * 2 ^ u) / 2 ^ j) : Int) := by
      rw [← isq_div, ← hX]
      have hbs : bl (sh2 M n) = bl M - (-n).toNat := by
        unfold sh2
        rw [if_pos c]
        exact bl_div_two_pow _ _
      refine Decidable.byContradiction fun h => ?_
      have h1 : bl (isq (sh2 M n)) ≤ k.toNat := by omega
      have h2 := (isq_spec (sh2 M n)).2
      have h3 := bl_le.1 h1
      have h4 := Nat.mul_le_mul (Nat.succ_le_of_lt h3) (Nat.succ_le_of_lt h3)
      rw [← Nat.pow_add] at h4
      have h5 : bl (sh2 M n) ≤ k.toNat + k.toNat := bl_le.2 (Nat.lt_of_lt_of_le h2 h4)
      omega
    have e1 : (((bl (isq (M * 2 ^ u)) : Nat) : Int) - k).toNat = j + (((bl (isq (M * 2 ^ u) / 2 ^ j) : Nat) : Int) - k).toNat := by omega
    rw [e1]
    generalize (((bl (isq (M * 2 ^ u) / 2 ^ j) : Nat) : Int) - k).toNat = t
    have e2 : isq (M * 2 ^ u) / 2 ^ j / 2 ^ t = isq (M * 2 ^ u) / 2 ^ (j + t) := by rw [Nat.div_div_eq_div_mul, ← Nat.pow_add]
    have e3 : (e - n) / 2 + (t : Int) = (e - (u : Int)) / 2 + ((j + t : Nat) : Int) := by omega
    simp only
    rw [root_lost, e2, e3]
  · have hz : z = n := by
      by_cases c2 : 2 * k + 2 - (bl M : Int) < 0
      · omega
      · exact hpar c2
    obtain ⟨u, hu⟩ : ∃ u : Nat, n = (u : Int) := ⟨n.toNat, by omega⟩
    have hX : sh2 M n = M * 2 ^ u := by unfold sh2; rw [if_neg c, hu, Int.toNat_natCast]
    have hF : fell M n = false := decide_eq_false (fun h => c h.1)
    rw [hX, hF, hz, hu, Int.toNat_natCast, Bool.false_or]
end Go.Dy

namespace Go.Dy
def unitOf (e : Int) : Dyd := ⟨false, [1], e⟩
def subD (a b : Dyd) : Dyd := addD a (negD b)
/-- one unit outwards, where something was lost on that side -/
def stepD (q : Dyd) (lost high neg : Bool) (u : Int) : Dyd := if (lost && (neg != high)) = true then (if high = true then addD q (unitOf u) else subD q (unitOf u)) else q
/-- next to a number on a side -/
def endD (d : Dyd) (n : Int) (high : Bool) : Dyd := stepD (cutR d n).1 (cutR d n).2 high d.neg (topD d - n)
/-- next to a quotient on a side -/
def quoE (a b : Dyd) (n : Int) (high : Bool) : Dyd := stepD (quoF a b n).1 (quoF a b n).2 high (quoF a b n).1.neg (topD (quoF a b n).1 - n)
/-- of moderate size -/
def mid (d : Dyd) : Prop := mayD d = true ∧ -1000000 ≤ d.exp ∧ d.exp ≤ 1000000
def shD (d : Dyd) (k : Int) : Dyd := if d.mag = [] then zeroD else ⟨d.neg, d.mag, d.exp + k⟩
def minD (a b : Dyd) : Dyd := if cmpD b a < 0 then b else a
def maxD (a b : Dyd) : Dyd := if cmpD a b < 0 then b else a
def min4 (a b c d : Dyd) : Dyd := minD (minD (minD a b) c) d
def max4 (a b c d : Dyd) : Dyd := maxD (maxD (maxD a b) c) d
def signS (lo hi : Dyd) : Int := if signD lo = signD hi then signD lo else 0
/-- the arc's terms: those to be added, those to be taken away, how many, and the next divisor -/
structure Arc where
  plus : Nat
  minus : Nat
  terms : Nat
  next : Nat
def arcF (kk : Nat) : Nat → Nat → Nat → Nat → Nat → Nat → Arc
  | 0, _, p, m, t, i => ⟨p, m, t, i⟩
  | f + 1, x, p, m, t, i => if x = 0 then ⟨p, m, t, i⟩ else if i % 4 = 3 then arcF kk f (x / kk) p (m + x / i) (t + 1) (i + 2) else arcF kk f (x / kk) (p + x / i) m (t + 1) (i + 2)
def arcA (b n : Nat) : Arc := arcF (n * n) (bl (2 ^ b / n)) (2 ^ b / n) 0 0 0 1
def arcV (b n : Nat) : Nat := (arcA b n).plus - (arcA b n).minus
def arcT (b n : Nat) : Nat := (arcA b n).terms
end Go.Dy
namespace Go.AI
open Go Go.RowKit Go.Proofs
set_option linter.unusedVariables false
/-- a dyadic number, by its parts -/
def dyF (x : Dy.Dyd) (P : Bool → List Nat → Int → Prop) : Prop := ∀ b, b = x.neg → ∀ l, l = x.mag → ∀ n, n = x.exp → P b l n
def avS (p : List Nat) (a b : Dy.Dyd) : AV := .agg [.bool a.neg, .dig p a.mag, .num .i64 a.exp, .bool b.neg, .dig p b.mag, .num .i64 b.exp]
def sPowerS : List AV → Option Spec
  | [.num .i64 n] => some ⟨none, avD [0] (Dy.unitOf n)⟩
  | _ => none
def sOfS : List AV → Option Spec
  | [.agg [.bool s, .dig [1] m, .num .i64 e]] => some ⟨none, avS [0, 1] ⟨s, m, e⟩ ⟨s, m, e⟩⟩
  | _ => none
def sAddS : List AV → Option Spec
  | [.agg [.bool s, .dig [1] m, .num .i64 e], .agg [.bool s', .dig [2] m', .num .i64 e']] =>
    some ⟨some (Dy.mayD ⟨s, m, e⟩ = true ∧ Dy.mayD ⟨s', m', e'⟩ = true ∧ Dy.mayD (Dy.addD ⟨s, m, e⟩ ⟨s', m', e'⟩) = true), avD [0] (Dy.addD ⟨s, m, e⟩ ⟨s', m', e'⟩)⟩
  | _ => none
def sSubS : List AV → Option Spec
  | [.agg [.bool s, .dig [1] m, .num .i64 e], .agg [.bool s', .dig [2] m', .num .i64 e']] =>
    some ⟨some (Dy.mayD ⟨s, m, e⟩ = true ∧ Dy.mayD ⟨s', m', e'⟩ = true ∧ Dy.mayD (Dy.subD ⟨s, m, e⟩ ⟨s', m', e'⟩) = true), avD [0] (Dy.subD ⟨s, m, e⟩ ⟨s', m', e'⟩)⟩
  | _ => none
def sMulS : List AV → Option Spec
  | [.agg [.bool s, .dig [1] m, .num .i64 e], .agg [.bool s', .dig [2] m', .num .i64 e']] =>
    some ⟨some (Dy.mayD ⟨s, m, e⟩ = true ∧ Dy.mayD ⟨s', m', e'⟩ = true ∧ Dy.mayD (Dy.mulD ⟨s, m, e⟩ ⟨s', m', e'⟩) = true), avD [0] (Dy.mulD ⟨s, m, e⟩ ⟨s', m', e'⟩)⟩
  | _ => none
def sLessS : List AV → Option Spec
  | [.agg [.bool s, .dig [1] m, .num .i64 e], .agg [.bool s', .dig [2] m', .num .i64 e']] =>
    some ⟨some (Dy.mayD ⟨s, m, e⟩ = true ∧ Dy.mayD ⟨s', m', e'⟩ = true), .bool (decide (Dy.cmpD ⟨s, m, e⟩ ⟨s', m', e'⟩ < 0))⟩
  | _ => none
def sEndS : List AV → Option Spec
  | [.num .i64 n, .agg [.bool s, .dig [2] m, .num .i64 e], .bool high] =>
    some ⟨some (Dy.mid ⟨s, m, e⟩ ∧ 1 ≤ n ∧ n ≤ 8192), avD [0] (Dy.endD ⟨s, m, e⟩ n high)⟩
  | _ => none
def sQuoS : List AV → Option Spec
  | [.num .i64 n, .agg [.bool s, .dig [2] m, .num .i64 e], .agg [.bool s', .dig [3] m', .num .i64 e'], .bool high] =>
    some ⟨some (Dy.mid ⟨s, m, e⟩ ∧ Dy.mid ⟨s', m', e'⟩ ∧ m' ≠ [] ∧ m.length ≤ 1000 ∧ m'.length ≤ 1000 ∧ 1 ≤ n ∧ n ≤ 8192 ∧ s' = false), avD [0] (Dy.quoE ⟨s, m, e⟩ ⟨s', m', e'⟩ n high)⟩
  | _ => none
def sOutS : List AV → Option Spec
  | [.num .i64 n, .agg [.bool s, .dig [2] m, .num .i64 e], .agg [.bool s', .dig [3] m', .num .i64 e']] =>
    some ⟨some (Dy.mid ⟨s, m, e⟩ ∧ Dy.mid ⟨s', m', e'⟩ ∧ 1 ≤ n ∧ n ≤ 8192), avS [0] (Dy.endD ⟨s, m, e⟩ n false) (Dy.endD ⟨s', m', e'⟩ n true)⟩
  | _ => none
def sNegS : List AV → Option Spec
  | [.agg [.bool s, .dig [1] m, .num .i64 e, .bool s', .dig [1] m', .num .i64 e']] =>
    some ⟨some (Dy.mayD ⟨s, m, e⟩ = true ∧ Dy.mayD ⟨s', m', e'⟩ = true), avS [0] (Dy.negD ⟨s', m', e'⟩) (Dy.negD ⟨s, m, e⟩)⟩
  | _ => none
def sScaleS : List AV → Option Spec
  | [.agg [.bool s, .dig [1] m, .num .i64 e, .bool s', .dig [1] m', .num .i64 e'], .num .i64 k] =>
    some ⟨some (Dy.mid ⟨s, m, e⟩ ∧ Dy.mid ⟨s', m', e'⟩ ∧ -1000000 ≤ k ∧ k ≤ 1000000), avS [0] (Dy.shD ⟨s, m, e⟩ k) (Dy.shD ⟨s', m', e'⟩ k)⟩
  | _ => none
def sSubSp : List AV → Option Spec
  | [.num .i64 n, .agg [.bool s, .dig [2] m, .num .i64 e, .bool s', .dig [2] m', .num .i64 e'], .agg [.bool t, .dig [3] l, .num .i64 f, .bool t', .dig [3] l', .num .i64 f']] =>
    some ⟨some (Dy.mayD ⟨s, m, e⟩ = true ∧ Dy.mayD ⟨s', m', e'⟩ = true ∧ Dy.mayD ⟨t, l, f⟩ = true ∧ Dy.mayD ⟨t', l', f'⟩ = true ∧ Dy.mid (Dy.subD ⟨s, m, e⟩ ⟨t', l', f'⟩) ∧ Dy.mid (Dy.subD ⟨s', m', e'⟩ ⟨t, l, f⟩) ∧ 1 ≤ n ∧ n ≤ 8192),
      avS [0] (Dy.endD (Dy.subD ⟨s, m, e⟩ ⟨t', l', f'⟩) n false) (Dy.endD (Dy.subD ⟨s', m', e'⟩ ⟨t, l, f⟩) n true)⟩
  | _ => none
def sMulSp : List AV → Option Spec
  | [.num .i64 n, .agg [.bool s, .dig [2] m, .num .i64 e, .bool s', .dig [2] m', .num .i64 e'], .agg [.bool t, .dig [3] l, .num .i64 f, .bool t', .dig [3] l', .num .i64 f']] =>
    some ⟨some (Dy.mayD ⟨s, m, e⟩ = true ∧ Dy.mayD ⟨s', m', e'⟩ = true ∧ Dy.mayD ⟨t, l, f⟩ = true ∧ Dy.mayD ⟨t', l', f'⟩ = true ∧
        Dy.mid (Dy.mulD ⟨s, m, e⟩ ⟨t, l, f⟩) ∧ Dy.mid (Dy.mulD ⟨s, m, e⟩ ⟨t', l', f'⟩) ∧ Dy.mid (Dy.mulD ⟨s', m', e'⟩ ⟨t, l, f⟩) ∧ Dy.mid (Dy.mulD ⟨s', m', e'⟩ ⟨t', l', f'⟩) ∧ 1 ≤ n ∧ n ≤ 8192),
      avS [0] (Dy.endD (bif !s && !t then Dy.mulD ⟨s, m, e⟩ ⟨t, l, f⟩ else Dy.min4 (Dy.mulD ⟨s, m, e⟩ ⟨t, l, f⟩) (Dy.mulD ⟨s, m, e⟩ ⟨t', l', f'⟩) (Dy.mulD ⟨s', m', e'⟩ ⟨t, l, f⟩) (Dy.mulD ⟨s', m', e'⟩ ⟨t', l', f'⟩)) n false)
        (Dy.endD (bif !s && !t then Dy.mulD ⟨s', m', e'⟩ ⟨t', l', f'⟩ else Dy.max4 (Dy.mulD ⟨s, m, e⟩ ⟨t, l, f⟩) (Dy.mulD ⟨s, m, e⟩ ⟨t', l', f'⟩) (Dy.mulD ⟨s', m', e'⟩ ⟨t, l, f⟩) (Dy.mulD ⟨s', m', e'⟩ ⟨t', l', f'⟩)) n true)⟩
  | _ => none
def sDivSp : List AV → Option Spec
  | [.num .i64 n, .agg [.bool s, .dig [2] m, .num .i64 e, .bool s', .dig [2] m', .num .i64 e'], .agg [.bool t, .dig [3] l, .num .i64 f, .bool t', .dig [3] l', .num .i64 f']] =>
    some ⟨some (Dy.mid ⟨s, m, e⟩ ∧ Dy.mid ⟨s', m', e'⟩ ∧ Dy.mid ⟨t, l, f⟩ ∧ Dy.mid ⟨t', l', f'⟩ ∧ t = false ∧ t' = false ∧ l ≠ [] ∧ l' ≠ [] ∧ m.length ≤ 1000 ∧ m'.length ≤ 1000 ∧ l.length ≤ 1000 ∧ l'.length ≤ 1000 ∧ 1 ≤ n ∧ n ≤ 8192),
      avS [0] (Dy.quoE ⟨s, m, e⟩ (bif s then ⟨t, l, f⟩ else ⟨t', l', f'⟩) n false) (Dy.quoE ⟨s', m', e'⟩ (bif s' then ⟨t', l', f'⟩ else ⟨t, l, f⟩) n true)⟩
  | _ => none
def sNearest : List AV → Option Spec
  | [.agg [.bool s, .dig [1] m, .num .i64 e, .bool s', .dig [1] m', .num .i64 e']] =>
    some ⟨some (Dy.mayD ⟨s, m, e⟩ = true ∧ Dy.mayD ⟨s', m', e'⟩ = true ∧ Dy.mayD (Dy.addD ⟨s, m, e⟩ (Dy.unitOf (-1))) = true ∧ Dy.mayD (Dy.addD ⟨s', m', e'⟩ (Dy.unitOf (-1))) = true ∧ Dy.mayD (Dy.floorD (Dy.addD ⟨s, m, e⟩ (Dy.unitOf (-1)))) = true ∧ Dy.mayD (Dy.floorD (Dy.addD ⟨s', m', e'⟩ (Dy.unitOf (-1)))) = true),
      .tup [avD [0] (Dy.floorD (Dy.addD ⟨s, m, e⟩ (Dy.unitOf (-1)))), .bool (decide (Dy.cmpD (Dy.floorD (Dy.addD ⟨s, m, e⟩ (Dy.unitOf (-1)))) (Dy.floorD (Dy.addD ⟨s', m', e'⟩ (Dy.unitOf (-1)))) = 0))]⟩
  | _ => none
def sSignSp : List AV → Option Spec
  | [.agg [.bool s, .dig [1] m, .num .i64 e, .bool s', .dig [1] m', .num .i64 e']] =>
    some ⟨some (Dy.mayD ⟨s, m, e⟩ = true ∧ Dy.mayD ⟨s', m', e'⟩ = true), .num .i64 (Dy.signS ⟨s, m, e⟩ ⟨s', m', e'⟩)⟩
  | _ => none
def sCutSp : List AV → Option Spec
  | [.agg [.bool s, .dig [1] m, .num .i64 e, .bool s', .dig [1] m', .num .i64 e'], .num .i64 b] =>
    some ⟨some (Dy.mid ⟨s, m, e⟩ ∧ Dy.mid ⟨s', m', e'⟩ ∧ 1 ≤ b ∧ b ≤ 8192),
      .tup [avD [0] (bif decide (Dy.signS ⟨s, m, e⟩ ⟨s', m', e'⟩ = 0) then Dy.zeroD else (Dy.cutR ⟨s, m, e⟩ b).1),
        .bool (!decide (Dy.signS ⟨s, m, e⟩ ⟨s', m', e'⟩ = 0) && decide (Dy.cmpD (Dy.cutR ⟨s, m, e⟩ b).1 (Dy.cutR ⟨s', m', e'⟩ b).1 = 0))]⟩
  | _ => none
def sArc : List AV → Option Spec
  | [.num .i64 n, .num .u64 k] => some ⟨some (20 ≤ n ∧ n ≤ 20000 ∧ (k = 5 ∨ k = 239)), .tup [.dig [0] (Dy.dg (Dy.arcV n.toNat k.toNat)), .num .u64 (2 * Dy.arcT n.toNat k.toNat + 2 : Nat)]⟩
  | _ => none
def sRestS : List AV → Option Spec
  | [.agg [.bool s, .dig [1] m, .num .i64 e]] => some ⟨some (Dy.mayD ⟨s, m, e⟩ = true ∧ 0 ≤ e), .num .i64 (Dy.at_ ⟨s, m, e⟩ 0 % 4)⟩
  | _ => none
def tabR0 : List (Nat × (List AV → Option Spec)) := (55, sPowerS) :: (29, sOfS) :: (51, sAddS) :: (49, sSubS) :: (56, sMulS) :: (57, sLessS) :: tabF
def tabR1 : List (Nat × (List AV → Option Spec)) := (69, sEndS) :: (53, sQuoS) :: tabR0
def tabR2 : List (Nat × (List AV → Option Spec)) := (50, sOutS) :: (37, sSignSp) :: (52, sNegS) :: (30, sScaleS) :: (33, sNearest) :: (34, sRestS) :: (47, sArc) :: tabR1
def tabR3 : List (Nat × (List AV → Option Spec)) := (35, sSubSp) :: (36, sMulSp) :: (32, sDivSp) :: (18, sCutSp) :: tabR2
end Go.AI
