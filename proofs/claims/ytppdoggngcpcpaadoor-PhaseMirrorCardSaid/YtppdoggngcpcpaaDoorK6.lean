/- My texts AInat2, AIspec3, AVref1, AIref1, AIspec4, AIdyad0, in one. -/
import Derived.Test.YtppdoggngcpcpaaDoorK5
namespace Go.Dy
theorem split_pow {n x y c : Nat} (h : x + 2 ^ n * c = y) (hx : x < 2 ^ n) : x = y % 2 ^ n ∧ c = y / 2 ^ n := by
  subst h
  rw [Nat.add_mul_mod_self_left, Nat.mod_eq_of_lt hx, Nat.add_mul_div_left _ _ (Nat.two_pow_pos _), Nat.div_eq_of_lt hx]
  exact ⟨rfl, by omega⟩
theorem take_dgN {o : List Nat} (ho : digs o) {n c y : Nat} (hn : n ≤ o.length) (h : val (o.take n) + 2 ^ (32 * n) * c = y) : o.take n = dgN n y ∧ c = y / 2 ^ (32 * n) := by
  have hl := val_lt (digs_take ho n)
  rw [List.length_take, Nat.min_eq_left hn] at hl
  obtain ⟨h1, h2⟩ := split_pow h hl
  refine ⟨ext_val (digs_take ho n) (digs_dgN _ _) (by simp [dgN_length, hn]) ?_, h2⟩
  rw [val_dgN, h1]
theorem may_len {l : List Nat} (h : may l = true) : l.length ≤ 4096 := (may_iff.1 h).1
theorem may_dg {l : List Nat} (h : may l = true) : dg (val l) = l := (may_iff.1 h).2
theorem may_nil {l : List Nat} (h : may l = true) : val l = 0 ↔ l = [] := by
  constructor
  · intro h0; rw [← may_dg h, h0, dg_zero]
  · rintro rfl; rfl
theorem okl_drop {l : List Nat} (h : okl l) (n : Nat) : okl (l.drop n) := ⟨by rw [List.length_drop]; have := h.1; omega, digs_drop h.2 n⟩
theorem drop_le (l : List Nat) {n : Nat} (h : l.length ≤ n) : val (l.drop n) = 0 := by rw [List.drop_of_length_le h]; rfl
theorem bound_eq {n : Nat} : boundN true n = (if (dg n).length ≤ 4096 then dg n else [], if (dg n).length ≤ 4096 then 0 else 3) := by
  unfold boundN; simp only [if_true]; split <;> rfl
theorem long_mul {x y p q k : Nat} (h1 : 2 ^ (32 * p) ≤ x) (h2 : 2 ^ (32 * q) ≤ y) (h : k ≤ p + q) : ¬ (dg (x * y)).length ≤ k := fun e => by
  have e := length_dg_le.1 e
  have q4 : 2 ^ (32 * k) ≤ 2 ^ (32 * p + 32 * q) := Nat.pow_le_pow_right (by decide) (by omega)
  rw [Nat.pow_add] at q4
  exact absurd e (Nat.not_lt.2 (Nat.le_trans q4 (Nat.mul_le_mul h1 h2)))
theorem cmpN_neg {a b : Nat} : cmpN a b < 0 ↔ a < b := by
  unfold cmpN
  by_cases h : a < b
  · simp [h]
  · rw [if_neg h]
    by_cases h' : b < a <;> simp [h, h']
end Go.Dy
namespace Go.AI
open Go Go.RowKit Go.Proofs
set_option linter.unusedVariables false
set_option maxRecDepth 100000

theorem loop_nat_Add : LoopOk Tryd.prog (look tab2) lamAdd 2 63 keepAdd (bodyN Tryd.f65 0) lsAdd := by
  intro vals r h K hK
  unfold lsAdd at h
  split at h
  · cases h
    rename_i a b o c k i
    simp only [evLR] at hK
    obtain ⟨⟨ha, hb, hba, rfl, rfl, rfl, rfl⟩, hK⟩ := hK
    have ha1 := ha.1
    have key : ∀ (u j c : Nat) (o : List Nat), a.length = u + j → o.length = a.length + 1 → Dy.digs o → o.drop a.length = [0] → Dy.val (o.take j) + 2 ^ (32 * j) * (c + Dy.val (a.drop j) + Dy.val (b.drop j)) = Dy.val a + Dy.val b →
        ∃ m, iterN Tryd.prog (look tab2) lamAdd 2 63 keepAdd (bodyN Tryd.f65 0) m [.dig [1, 2, 3] a, .dig [1, 2, 3] b, .grown 48 o, .num .u32 c, .num .i64 a.length, .num .i64 j] K := by
      intro u
      induction u with
      | zero =>
        intro j c o hj hol hod hot hv
        refine iterN_last ?_
        rw [vc_nat_Add_1]
        refine cond_f (decide_eq_false (by omega)) ?_
        simp only [Dy.drop_le a (show a.length ≤ j by omega), Dy.drop_le b (show b.length ≤ j by omega), Nat.add_zero] at hv
        obtain ⟨h1, h2⟩ := Dy.take_dgN hod (by omega) hv
        have hja : j = a.length := by omega
        subst hja
        have ho : o = Dy.dgN a.length (Dy.val a + Dy.val b) ++ [0] := by
          rw [← h1, ← hot, List.take_append_drop]
        rw [ho, h2]
        exact hK
      | succ u ih =>
        intro j c o hj hol hod hot hv
        rw [Dy.val_drop_step a, Dy.val_drop_step b] at hv
        have hset := Dy.val_take_set_succ (l := o) (i := j) (d := (a.getD j 0 + b.getD j 0 + c) % 4294967296) (by omega)
        obtain ⟨m, hm⟩ := ih (j + 1) ((a.getD j 0 + b.getD j 0 + c) / 4294967296) (o.set j ((a.getD j 0 + b.getD j 0 + c) % 4294967296)) (by omega) (by simpa using hol) (Dy.digs_set hod (by omega))
          (by rw [List.drop_set, if_pos (by omega)]; exact hot) (by
            rw [hset, Dy.pow_split, Nat.mul_assoc, Nat.add_assoc, ← Nat.mul_add, ← hv]
            congr 2
            omega)
        refine iterN_next m ?_
        rw [vc_nat_Add_1]
        have e1 : ∀ x y : Nat, (((x : Int) + (y : Int) + (c : Int)) % 4294967296).toNat = (x + y + c) % 4294967296 := fun x y => by omega
        have e2 : ∀ x y : Nat, ((x : Int) + (y : Int) + (c : Int)) / 4294967296 = (((x + y + c) / 4294967296 : Nat) : Int) := fun x y => by omega
        refine cond_t (decide_eq_true (by omega)) (cond_i (fun h => ?_) (fun h => ?_))
        · have h := of_decide_eq_true h
          refine ⟨by omega, by omega, ?_⟩
          rintro _ rfl _ rfl
          refine ⟨by omega, by omega, ?_⟩
          rw [Int.toNat_natCast, e1, e2, wrap_i64 (by omega) (by omega)]
          exact hm
        · have h := of_decide_eq_false h
          refine ⟨by omega, ?_⟩
          rintro _ rfl _ rfl
          refine ⟨by omega, by omega, ?_⟩
          have hb0 : b.getD j 0 = 0 := by rw [List.getD_eq_getElem?_getD, List.getElem?_eq_none (by omega)]; rfl
          rw [Int.toNat_natCast, show ((0 : Int)) = ((b.getD j 0 : Nat) : Int) by rw [hb0]; rfl, e1, e2, wrap_i64 (by omega) (by omega)]
          exact hm
    exact key a.length 0 0 _ (by omega) (by simp) (Dy.digs_replicate _) (by simp) (by simp [Dy.val])
  · cases h

theorem add_out (A B n : Nat) (hA : A < 2 ^ (32 * n)) (hB : B < 2 ^ (32 * n)) : Dy.val ((Dy.dgN n (A + B) ++ [0]).set n ((A + B) / 2 ^ (32 * n))) = A + B := by
  rw [List.set_append_right _ _ (by simp [Dy.dgN_length])]
  simp only [Dy.dgN_length, Nat.sub_self, List.set_cons_zero]
  rw [Dy.val_snoc, Dy.val_dgN, Dy.dgN_length, Nat.mod_add_div]

theorem ok_nat_Add (args : List AV) (s : Spec) (h : sAdd args = some s) (hp : andO s.pre True) : Contract Tryd.prog Inv 65 args s.res := by
  unfold sAdd at h
  split at h
  · cases h
    rename_i a b
    refine contract_at false 63 lamAdd ok_tab2 Tryd.func65 (by kernel_rfl) rfl (loops1 (by kernel_rfl) (by kernel_rfl) loop_nat_Add) fun hok => ?_
    have ha := (oks1_dig hok).1
    have hb := (oks1_dig (oks1_dig hok).2).1
    have ha1 := ha.1
    have hb1 := hb.1
    rw [vc_nat_Add]
    refine cond_i (fun h => ?_) (fun h => ?_)
    · simp only [Bool.not_eq_true'] at h
      unfold Dy.addR
      rw [h]
      rfl
    · simp only [Bool.not_eq_false'] at h
      unfold Dy.addR
      rw [h, Dy.bound_eq]
      obtain ⟨m1, m2⟩ := (Bool.and_eq_true_iff).1 h
      have := Dy.may_len m1
      have := Dy.may_len m2
      have la := Dy.val_lt ha.2
      have lb := Dy.val_lt hb.2
      refine cond_i (fun h => ?_) (fun h => ?_)
      · have h := of_decide_eq_true h
        rw [wrap_i64 (by omega) (by omega), Int.toNat_natCast]
        refine ⟨⟨by omega, by omega, by omega⟩, ⟨hb, ha, by omega, by rw [show ((b.length : Int) + 1).toNat = b.length + 1 by omega], rfl, rfl, rfl⟩, by simp [Dy.dgN_length]; omega, by simp [Dy.dgN_length], ?_⟩
        rintro _ rfl _ rfl
        rw [Int.toNat_natCast, add_out _ _ _ lb (Nat.lt_of_lt_of_le la (Nat.pow_le_pow_right (by decide) (by omega))), Nat.add_comm]
      · have h := of_decide_eq_false h
        rw [wrap_i64 (by omega) (by omega), Int.toNat_natCast]
        refine ⟨⟨by omega, by omega, by omega⟩, ⟨ha, hb, by omega, by rw [show ((a.length : Int) + 1).toNat = a.length + 1 by omega], rfl, rfl, rfl⟩, by simp [Dy.dgN_length]; omega, by simp [Dy.dgN_length], ?_⟩
        rintro _ rfl _ rfl
        rw [Int.toNat_natCast, add_out _ _ _ la (Nat.lt_of_lt_of_le lb (Nat.pow_le_pow_right (by decide) (by omega)))]
  · cases h

theorem loop_nat_sub : LoopOk Tryd.prog (look tab2) lamSubL 2 41 keepSubL (bodyN Tryd.f82 0) lsSubL := by
  intro vals r h K hK
  unfold lsSubL at h
  split at h
  · cases h
    rename_i a b o c k i
    simp only [evLR] at hK
    obtain ⟨⟨ha, hb, hba, rfl, rfl, rfl, rfl⟩, hK⟩ := hK
    have ha1 := ha.1
    have key : ∀ (u j c : Nat) (o : List Nat), a.length = u + j → o.length = a.length → Dy.digs o → c ≤ 1 → Dy.val (o.take j) + 2 ^ (32 * j) * Dy.val (a.drop j) + Dy.val b = Dy.val a + 2 ^ (32 * j) * (c + Dy.val (b.drop j)) →
        ∃ m, iterN Tryd.prog (look tab2) lamSubL 2 41 keepSubL (bodyN Tryd.f82 0) m [.dig [1, 2, 3] a, .dig [1, 2, 3] b, .grown 48 o, .num .u32 c, .num .i64 a.length, .num .i64 j] K := by
      intro u
      induction u with
      | zero =>
        intro j c o hj hol hod hc hv
        refine iterN_last ?_
        rw [vc_nat_sub_1]
        refine cond_f (decide_eq_false (by omega)) ?_
        have hja : j = a.length := by omega
        subst hja
        rw [List.take_of_length_le (by omega), List.drop_length] at hv
        have hlt := Dy.val_lt hod
        rw [hol] at hlt
        have hvb : Dy.val (b.drop a.length) = 0 := by
          rw [Dy.val_drop hb.2]
          exact Nat.div_eq_of_lt (Nat.lt_of_le_of_lt hba (Dy.val_lt ha.2))
        rw [hvb] at hv
        simp only [Dy.val, Nat.mul_zero, Nat.add_zero] at hv
        have hc0 : c = 0 := by
          rcases Nat.eq_zero_or_pos c with h | h
          · exact h
          · have : c = 1 := by omega
            subst this
            omega
        subst hc0
        have ho : o = Dy.dgN a.length (Dy.val a - Dy.val b) := by
          rw [show Dy.val a - Dy.val b = Dy.val o by omega]
          exact (Dy.dgN_val' hod hol).symm
        rw [ho]
        exact hK
      | succ u ih =>
        intro j c o hj hol hod hc hv
        have hx := Dy.digs_getD ha.2 j
        have hy := Dy.digs_getD hb.2 j
        rw [Dy.val_drop_step a, Dy.val_drop_step b] at hv
        generalize hxx : a.getD j 0 = x at hx hv
        generalize hyy : b.getD j 0 = y at hy hv
        have hd : ∃ d : Nat, (((x : Int) - (y : Int) - (c : Int)) % 4294967296).toNat = d ∧ d < 4294967296 ∧ d + y + c = x + 4294967296 * (if x < y + c then 1 else 0) := by
          refine ⟨_, rfl, by omega, ?_⟩
          split <;> omega
        obtain ⟨d, hd1, hd2, hd3⟩ := hd
        have hset := Dy.val_take_set_succ (l := o) (i := j) (d := d) (by omega)
        obtain ⟨m, hm⟩ := ih (j + 1) (if x < y + c then 1 else 0) (o.set j d) (by omega) (by simpa using hol) (Dy.digs_set hod hd2) (by split <;> omega) (by
            rw [hset, Dy.pow_split]
            generalize (if x < y + c then 1 else 0) = e at hd3 ⊢
            generalize 2 ^ (32 * j) = p at hv ⊢
            have h1 : p * (d + y + c) = p * (x + 4294967296 * e) := by rw [hd3]
            simp only [Nat.mul_add, Nat.mul_assoc] at hv h1 ⊢
            omega)
        refine iterN_next m ?_
        rw [vc_nat_sub_1]
        have e2 : (if (x : Int) < (y : Int) + (c : Int) then (1 : Int) else 0) = ((if x < y + c then 1 else 0 : Nat) : Int) := by
          by_cases h : x < y + c
          · rw [if_pos h, if_pos (by omega)]; rfl
          · rw [if_neg h, if_neg (by omega)]; rfl
        refine cond_t (decide_eq_true (by omega)) (cond_i (fun h => ?_) (fun h => ?_))
        · have h := of_decide_eq_true h
          refine ⟨by omega, by omega, by omega, ?_⟩
          rintro _ rfl _ rfl
          refine ⟨by omega, by omega, ?_⟩
          rw [Int.toNat_natCast, hxx, hyy, hd1, e2, wrap_i64 (by omega) (by omega)]
          exact hm
        · have h := of_decide_eq_false h
          refine ⟨by omega, by omega, ?_⟩
          rintro _ rfl _ rfl
          refine ⟨by omega, by omega, ?_⟩
          have hb0 : b.getD j 0 = 0 := by rw [List.getD_eq_getElem?_getD, List.getElem?_eq_none (by omega)]; rfl
          have hy0 : y = 0 := by rw [← hyy, hb0]
          rw [Int.toNat_natCast, hxx, show ((0 : Int)) = ((y : Nat) : Int) by rw [hy0]; rfl, hd1]
          rw [show ((1 : Int)) = ((1 : Nat) : Int) from rfl, show (if (x : Int) < (y : Int) + (c : Int) then ((1 : Nat) : Int) else ((y : Nat) : Int)) = ((if x < y + c then 1 else 0 : Nat) : Int) by rw [← e2, hy0]; rfl, wrap_i64 (by omega) (by omega)]
          exact hm
    exact key a.length 0 0 _ (by omega) (by simp) (Dy.digs_replicate _) (by omega) (by simp [Dy.val])
  · cases h

theorem ok_nat_sub (args : List AV) (s : Spec) (h : sSubL args = some s) (hp : andO s.pre True) : Contract Tryd.prog Inv 82 args s.res := by
  unfold sSubL at h
  split at h
  · cases h
    rename_i a b
    obtain ⟨⟨hba, hal⟩, -⟩ := hp
    refine contract_at false 41 lamSubL ok_tab2 Tryd.func82 (by kernel_rfl) rfl (loops1 (by kernel_rfl) (by kernel_rfl) loop_nat_sub) fun hok => ?_
    have ha := (oks1_dig hok).1
    have hb := (oks1_dig (oks1_dig hok).2).1
    rw [vc_nat_sub]
    refine ⟨⟨by omega, by omega, by omega⟩, ⟨ha, hb, hba, by rw [Int.toNat_natCast], rfl, rfl, rfl⟩, ?_⟩
    rw [Dy.dg_val_dgN (Nat.lt_of_le_of_lt (Nat.sub_le _ _) (Dy.val_lt ha.2))]
  · cases h

theorem loop_nat_mul_row : LoopOk Tryd.prog (look tab2) lamMul 2 68 keepMulI (bodyN Tryd.f94 1) lsMulI := by
  intro vals r h K hK
  unfold lsMulI at h
  split at h
  · cases h
    rename_i o r x c b k i b' a ka ia
    simp only [evLR] at hK
    obtain ⟨⟨ho, hb, hb1, hr, hro, hol, hx0, hx1, rfl, rfl, rfl⟩, hK⟩ := hK
    obtain ⟨r, rfl⟩ := Int.eq_ofNat_of_zero_le hr
    obtain ⟨x, rfl⟩ := Int.eq_ofNat_of_zero_le hx0
    simp only [Int.toNat_natCast] at hro hK
    generalize hS : Dy.val (o.take (r + b.length)) + 2 ^ (32 * r) * (x * Dy.val b) = S at hK
    have key : ∀ (u j c : Nat) (q : List Nat), b.length = u + j → q.length = o.length → Dy.digs q → q.drop (r + b.length) = o.drop (r + b.length) → c < 4294967296 → Dy.val (q.take (r + b.length)) + 2 ^ (32 * (r + j)) * (c + x * Dy.val (b.drop j)) = S →
        ∃ m, iterN Tryd.prog (look tab2) lamMul 2 68 keepMulI (bodyN Tryd.f94 1) m [.grown 48 q, .num .i64 r, .num .u32 x, .num .u64 c, .dig [1, 2, 3] b, .num .i64 b.length, .num .i64 j, .dig [1, 2, 3] b', .dig [1, 2, 3] a, .num .i64 ka, .num .i64 ia] K := by
      intro u
      induction u with
      | zero =>
        intro j c q hj hql hqd hqt hc hv
        refine iterN_last ?_
        rw [vc_nat_mul_2]
        refine cond_f (decide_eq_false (by omega)) ?_
        have hja : j = b.length := by omega
        subst hja
        simp only [List.drop_length, Dy.val, Nat.mul_zero, Nat.add_zero] at hv
        obtain ⟨h1, h2⟩ := Dy.take_dgN hqd (by omega) hv
        rw [← h1, ← h2, ← hqt, List.take_append_drop] at hK
        exact hK
      | succ u ih =>
        intro j c q hj hql hqd hqt hc hv
        have hy := Dy.digs_getD hb.2 j
        have hz := Dy.digs_getD hqd (r + j)
        rw [Dy.val_drop_step b] at hv
        have hx1' : x < 4294967296 := by omega
        generalize hyy : b.getD j 0 = y at hy hv
        generalize hzz : q.getD (r + j) 0 = z at hz
        have hxy : x * y ≤ 4294967295 * 4294967295 := Nat.mul_le_mul (by omega) (by omega)
        have hset := Dy.val_set (l := q.take (r + b.length)) (i := r + j) (d := (x * y + z + c) % 4294967296) (by rw [List.length_take]; omega)
        have hgz : (q.take (r + b.length)).getD (r + j) 0 = z := by
          rw [← hzz, List.getD_eq_getElem?_getD, List.getElem?_take_of_lt (by omega), List.getD_eq_getElem?_getD]
        rw [hgz, ← List.take_set] at hset
        obtain ⟨m, hm⟩ := ih (j + 1) ((x * y + z + c) / 4294967296) (q.set (r + j) ((x * y + z + c) % 4294967296)) (by omega) (by simpa using hql) (Dy.digs_set hqd (by omega))
          (by rw [List.drop_set, if_pos (by omega)]; exact hqt) (by omega) (by
            rw [← hv, show r + (j + 1) = (r + j) + 1 by omega, Dy.pow_split]
            generalize 2 ^ (32 * (r + j)) = p at hset ⊢
            have h1 : x * y + z + c = (x * y + z + c) % 4294967296 + 4294967296 * ((x * y + z + c) / 4294967296) := by omega
            generalize (x * y + z + c) % 4294967296 = lo at h1 hset ⊢
            generalize (x * y + z + c) / 4294967296 = hi at h1 ⊢
            have h2 : p * (x * y + z + c) = p * (lo + 4294967296 * hi) := by rw [h1]
            have h3 : x * (y + 4294967296 * Dy.val (b.drop (j + 1))) = x * y + 4294967296 * (x * Dy.val (b.drop (j + 1))) := by rw [Nat.mul_add, Nat.mul_left_comm]
            rw [h3]
            simp only [Nat.mul_add, Nat.mul_assoc] at h2 hset ⊢
            omega)
        refine iterN_next m ?_
        rw [vc_nat_mul_2]
        have hw : IntKind.i64.wrap ((r : Int) + (j : Int)) = ((r + j : Nat) : Int) := by rw [wrap_i64 (by omega) (by omega)]; omega
        rw [hw]
        simp only [Int.toNat_natCast]
        rw [hyy, hzz]
        have e1 : IntKind.u64.wrap (IntKind.u64.wrap (IntKind.u64.wrap (IntKind.u64.wrap (x : Int) * IntKind.u64.wrap (y : Int)) + IntKind.u64.wrap (z : Int)) + (c : Int)) = ((x * y + z + c : Nat) : Int) := by
          simp only [wrap_u64]
          have q1 : (x : Int) % 18446744073709551616 = x := by omega
          have q2 : (y : Int) % 18446744073709551616 = y := by omega
          rw [q1, q2, ← Int.natCast_mul]
          generalize x * y = xy at hxy ⊢
          omega
        refine cond_t (decide_eq_true (by omega)) ⟨by omega, by omega, by omega, by omega, by omega, ?_⟩
        rw [e1, fdiv_pow (by omega), Int.toNat_natCast, wrap_u32, wrap_i64 (by omega) (by omega)]
        have e2 : (((x * y + z + c : Nat) : Int) % 4294967296).toNat = (x * y + z + c) % 4294967296 := by omega
        rw [e2]
        exact hm
    exact key b.length 0 0 o (by omega) rfl ho rfl (by omega) (by rw [← hS]; simp)
  · cases h

theorem loop_nat_mul : LoopOk Tryd.prog (look tab2) lamMul 2 68 keepMulO (bodyN Tryd.f94 0) lsMulO := by
  intro vals r h K hK
  unfold lsMulO at h
  split at h
  · cases h
    rename_i b o a k i
    simp only [evLR] at hK
    obtain ⟨⟨ha, hb, ha1, hb1, rfl, rfl, rfl⟩, hK⟩ := hK
    have key : ∀ (u j : Nat) (q : List Nat), a.length = u + j → q.length = a.length + b.length → Dy.digs q → Dy.val (q.take (j + b.length)) + 2 ^ (32 * j) * (Dy.val (a.drop j) * Dy.val b) = Dy.val a * Dy.val b →
        ∃ m, iterN Tryd.prog (look tab2) lamMul 2 68 keepMulO (bodyN Tryd.f94 0) m [.dig [1, 2, 3] b, .grown 48 q, .dig [1, 2, 3] a, .num .i64 a.length, .num .i64 j] K := by
      intro u
      induction u with
      | zero =>
        intro j q hj hql hqd hv
        refine iterN_last ?_
        rw [vc_nat_mul_1]
        refine cond_f (decide_eq_false (by omega)) ?_
        have hja : j = a.length := by omega
        subst hja
        rw [List.take_of_length_le (by omega), List.drop_length] at hv
        simp only [Dy.val, Nat.zero_mul, Nat.mul_zero, Nat.add_zero] at hv
        have : q = Dy.dgN (a.length + b.length) (Dy.val a * Dy.val b) := by rw [← hv]; exact (Dy.dgN_val' hqd hql).symm
        rw [this]
        exact hK
      | succ u ih =>
        intro j q hj hql hqd hv
        have hx := Dy.digs_getD ha.2 j
        rw [Dy.val_drop_step a] at hv
        generalize hxx : a.getD j 0 = x at hx hv
        have lb := Dy.val_lt hb.2
        have lq := Dy.val_lt (Dy.digs_take hqd (j + b.length))
        rw [List.length_take, Nat.min_eq_left (by omega)] at lq
        generalize hL : Dy.val (q.take (j + b.length)) + 2 ^ (32 * j) * (x * Dy.val b) = L
        have hLlt : L / 2 ^ (32 * (j + b.length)) < 4294967296 := by
          rw [Nat.div_lt_iff_lt_mul (Nat.two_pow_pos _), ← hL]
          have h1 : x * Dy.val b ≤ 4294967295 * 2 ^ (32 * b.length) := Nat.mul_le_mul (by omega) (Nat.le_of_lt lb)
          have h2 : 2 ^ (32 * j) * (x * Dy.val b) ≤ 2 ^ (32 * j) * (4294967295 * 2 ^ (32 * b.length)) := Nat.mul_le_mul_left _ h1
          have h3 : 2 ^ (32 * j) * (4294967295 * 2 ^ (32 * b.length)) = 4294967295 * 2 ^ (32 * (j + b.length)) := by
            rw [Nat.mul_left_comm, ← Nat.pow_add, Nat.mul_add]
          rw [h3] at h2
          generalize 2 ^ (32 * (j + b.length)) = p at lq h2 ⊢
          omega
        have hlen : (Dy.dgN (j + b.length) L ++ q.drop (j + b.length)).length = a.length + b.length := by simp [Dy.dgN_length]; omega
        have hset := Dy.val_take_set_succ (l := Dy.dgN (j + b.length) L ++ q.drop (j + b.length)) (i := j + b.length) (d := L / 2 ^ (32 * (j + b.length))) (by omega)
        rw [List.take_left' (Dy.dgN_length _ _), Dy.val_dgN, Nat.mod_add_div] at hset
        obtain ⟨m, hm⟩ := ih (j + 1) ((Dy.dgN (j + b.length) L ++ q.drop (j + b.length)).set (j + b.length) (L / 2 ^ (32 * (j + b.length)))) (by omega) (by rw [List.length_set]; exact hlen)
          (Dy.digs_set (Dy.digs_append.2 ⟨Dy.digs_dgN _ _, Dy.digs_drop hqd _⟩) hLlt) (by
            rw [show j + 1 + b.length = j + b.length + 1 by omega, hset, ← hv, ← hL, Dy.pow_split, Nat.add_mul, Nat.mul_add, Nat.mul_assoc, Nat.mul_assoc, Nat.add_assoc])
        refine iterN_next m ?_
        rw [vc_nat_mul_1]
        simp only [Int.toNat_natCast]
        rw [hxx, hL]
        have hw : IntKind.i64.wrap ((j : Int) + (b.length : Int)) = ((j + b.length : Nat) : Int) := by rw [wrap_i64 (by omega) (by omega)]; omega
        rw [hw, hlen]
        simp only [Int.toNat_natCast]
        refine cond_t (decide_eq_true (by omega)) ⟨by omega, ⟨hqd, hb, hb1, by omega, by omega, by omega, by omega, by omega, by simp, by simp, by simp⟩, by omega, by omega, ?_⟩
        rw [wrap_u32, wrap_i64 (by omega) (by omega)]
        have e2 : (((L / 2 ^ (32 * (j + b.length)) : Nat) : Int) % 4294967296).toNat = L / 2 ^ (32 * (j + b.length)) := by
          generalize L / 2 ^ (32 * (j + b.length)) = y at hLlt ⊢
          omega
        rw [e2]
        exact hm
    exact key a.length 0 _ (by omega) (by simp) (Dy.digs_replicate _) (by rw [List.take_replicate, Dy.val_replicate]; simp)
  · cases h

theorem ok_nat_mul (args : List AV) (s : Spec) (h : sMulL args = some s) (hp : andO s.pre True) : Contract Tryd.prog Inv 94 args s.res := by
  unfold sMulL at h
  split at h
  · cases h
    rename_i a b
    obtain ⟨⟨hal, hbl⟩, -⟩ := hp
    refine contract_at false 68 lamMul ok_tab2 Tryd.func94 (by kernel_rfl) rfl (loops2 (by kernel_rfl) (by kernel_rfl) loop_nat_mul (by kernel_rfl) loop_nat_mul_row) fun hok => ?_
    have ha := (oks1_dig hok).1
    have hb := (oks1_dig (oks1_dig hok).2).1
    rw [vc_nat_mul, wrap_i64 (by omega) (by omega)]
    refine ⟨⟨by omega, by omega, by omega⟩, ⟨ha, hb, hal, hbl, by rw [show ((a.length : Int) + b.length).toNat = a.length + b.length by omega], rfl, rfl⟩, ?_⟩
    rw [Dy.dg_val_dgN]
    rw [Nat.mul_add, Nat.pow_add]
    exact Nat.mul_lt_mul'' (Dy.val_lt ha.2) (Dy.val_lt hb.2)
  · cases h

theorem loop_nat_small : LoopOk Tryd.prog (look tab2) lamSmall 2 35 keepSmall (bodyN Tryd.f78 0) lsSmall := by
  intro vals r h K hK
  unfold lsSmall at h
  split at h
  · cases h
    rename_i a d o c i
    simp only [evLR] at hK
    obtain ⟨⟨ha, hd0, hd1, rfl, rfl, rfl⟩, hK⟩ := hK
    have ha1 := ha.1
    obtain ⟨d, rfl⟩ := Int.eq_ofNat_of_zero_le (Int.le_of_lt hd0)
    simp only [Int.toNat_natCast] at hK
    have key : ∀ (j c : Nat) (o : List Nat), j ≤ a.length → o.length = a.length → Dy.digs o → c < d → Dy.val a % d = (2 ^ (32 * j) * c + Dy.val (a.take j)) % d → Dy.val a / d = 2 ^ (32 * j) * Dy.val (o.drop j) + (2 ^ (32 * j) * c + Dy.val (a.take j)) / d →
        ∃ m, iterN Tryd.prog (look tab2) lamSmall 2 35 keepSmall (bodyN Tryd.f78 0) m [.dig [1, 2, 3] a, .num .u32 d, .grown 48 o, .num .u32 c, .num .i64 ((j : Int) - 1)] K := by
      intro j
      induction j with
      | zero =>
        intro c o hj hol hod hc hm hv
        refine iterN_last ?_
        rw [vc_nat_small_1]
        refine cond_f (decide_eq_false (by omega)) ?_
        simp only [Nat.mul_zero, Nat.pow_zero, Nat.one_mul, List.take_zero, Dy.val, Nat.add_zero, List.drop_zero] at hm hv
        rw [Nat.mod_eq_of_lt hc] at hm
        rw [Nat.div_eq_of_lt hc, Nat.add_zero] at hv
        rw [hm, hv, Dy.dgN_val' hod hol] at hK
        exact hK
      | succ j ih =>
        intro c o hj hol hod hc hm hv
        have hx := Dy.digs_getD ha.2 j
        have hts := Dy.val_take_succ (l := a) (i := j) (by omega)
        generalize hxx : a.getD j 0 = x at hx hts
        have hdp : 0 < d := by omega
        have hq : (c * 4294967296 + x) / d < 4294967296 := by
          rw [Nat.div_lt_iff_lt_mul hdp]
          have : (c + 1) * 4294967296 ≤ d * 4294967296 := Nat.mul_le_mul_right _ hc
          rw [Nat.mul_comm 4294967296 d]
          omega
        have hr : (c * 4294967296 + x) % d < d := Nat.mod_lt _ hdp
        have hN : 2 ^ (32 * (j + 1)) * c + Dy.val (a.take (j + 1)) = d * (2 ^ (32 * j) * ((c * 4294967296 + x) / d)) + (2 ^ (32 * j) * ((c * 4294967296 + x) % d) + Dy.val (a.take j)) := by
          have h1 := Nat.div_add_mod (c * 4294967296 + x) d
          generalize (c * 4294967296 + x) / d = q at h1 ⊢
          generalize (c * 4294967296 + x) % d = r at h1 ⊢
          rw [hts, Dy.pow_split, Nat.mul_left_comm d]
          have h2 : 2 ^ (32 * j) * (d * q + r) = 2 ^ (32 * j) * (4294967296 * c + x) := by rw [h1, Nat.mul_comm c]
          generalize 2 ^ (32 * j) = p at h2 ⊢
          simp only [Nat.mul_add, Nat.mul_assoc] at h2 ⊢
          omega
        have hds := Dy.val_drop_at (l := o.set j ((c * 4294967296 + x) / d)) (i := j) (by simp; omega)
        rw [Dy.drop_set_succ] at hds
        have hgs : (o.set j ((c * 4294967296 + x) / d)).getD j 0 = (c * 4294967296 + x) / d := by simp [List.getD_eq_getElem?_getD, show j < o.length by omega]
        rw [hgs] at hds
        obtain ⟨m, hmm⟩ := ih ((c * 4294967296 + x) % d) (o.set j ((c * 4294967296 + x) / d)) (by omega) (by simpa using hol) (Dy.digs_set hod hq) hr
          (by rw [hm, hN, Nat.mul_add_mod]) (by
            rw [hv, hN, hds, Nat.mul_add_div hdp, Dy.pow_split, Nat.mul_add, Nat.mul_assoc]
            omega)
        refine iterN_next m ?_
        rw [vc_nat_small_1]
        have e0 : (((j + 1 : Nat) : Int) - 1) = (j : Int) := by omega
        rw [e0, Int.toNat_natCast, hxx]
        refine cond_t (decide_eq_true (by omega)) ⟨by omega, by omega, ?_⟩
        rintro _ rfl _ rfl
        have e1 : (c : Int) * 4294967296 + (x : Int) = ((c * 4294967296 + x : Nat) : Int) := by omega
        rw [e1, ← Int.natCast_ediv, ← Int.natCast_emod, Int.toNat_natCast, wrap_i64 (by omega) (by omega)]
        exact ⟨by omega, by omega, hmm⟩
    exact key a.length 0 _ (Nat.le_refl _) (by simp) (Dy.digs_replicate _) (by omega) (by simp) (by simp [Dy.val])
  · cases h

theorem ok_nat_small (args : List AV) (s : Spec) (h : sSmall args = some s) (hp : andO s.pre True) : Contract Tryd.prog Inv 78 args s.res := by
  unfold sSmall at h
  split at h
  · cases h
    rename_i a d
    obtain ⟨⟨hd, hal⟩, -⟩ := hp
    refine contract_at false 35 lamSmall ok_tab2 Tryd.func78 (by kernel_rfl) rfl (loops1 (by kernel_rfl) (by kernel_rfl) loop_nat_small) fun hok => ?_
    have ha := (oks1_dig hok).1
    have hr := range_u32 (oks1_num (oks1_dig hok).2).1
    rw [vc_nat_small]
    refine ⟨⟨by omega, by omega, by omega⟩, ⟨ha, hd, hr.2, by rw [Int.toNat_natCast], rfl, by rw [wrap_i64 (by omega) (by omega)]⟩, ?_⟩
    rw [Dy.dg_val_dgN (Nat.lt_of_le_of_lt (Nat.div_le_self _ _) (Dy.val_lt ha.2))]
  · cases h

theorem loop_nat_up : LoopOk Tryd.prog (look tab2) lamUp 2 50 keepUp (bodyN Tryd.f63 0) lsUp := by
  intro vals r h K hK
  unfold lsUp at h
  split at h
  · cases h
    rename_i o s c a k i
    simp only [evLR] at hK
    obtain ⟨⟨ha, ha1, hs0, hs1, hol, rfl, rfl, rfl⟩, hK⟩ := hK
    obtain ⟨s, rfl⟩ := Int.eq_ofNat_of_zero_le hs0
    simp only [Int.toNat_natCast] at hK
    have key : ∀ (u j c : Nat) (q : List Nat), a.length = u + j → q.length = j → Dy.digs q → c < 2 ^ s → Dy.val q + 2 ^ (32 * j) * (c + 2 ^ s * Dy.val (a.drop j)) = Dy.val a * 2 ^ s →
        ∃ m, iterN Tryd.prog (look tab2) lamUp 2 50 keepUp (bodyN Tryd.f63 0) m [.grown 48 (o ++ q), .num .i64 s, .num .u32 c, .dig [1, 2, 3] a, .num .i64 a.length, .num .i64 j] K := by
      intro u
      induction u with
      | zero =>
        intro j c q hj hql hqd hc hv
        refine iterN_last ?_
        rw [vc_nat_up_1]
        refine cond_f (decide_eq_false (by omega)) ?_
        have hja : j = a.length := by omega
        subst hja
        simp only [List.drop_length, Dy.val, Nat.mul_zero, Nat.add_zero] at hv
        have hq := Dy.take_dgN hqd (n := a.length) (c := c) (y := Dy.val a * 2 ^ s) (by omega) (by rw [List.take_of_length_le (by omega)]; exact hv)
        rw [List.take_of_length_le (by omega)] at hq
        rw [← hq.1, ← hq.2] at hK
        exact hK
      | succ u ih =>
        intro j c q hj hql hqd hc hv
        have hx := Dy.digs_getD ha.2 j
        rw [Dy.val_drop_step a] at hv
        generalize hxx : a.getD j 0 = x at hx hv
        have hs : 2 ^ s * 2 ^ (32 - s) = 4294967296 := by rw [← Nat.pow_add, show s + (32 - s) = 32 by omega]
        have hc' : c < 4294967296 := by
          have : 2 ^ s ≤ 2 ^ 32 := Nat.pow_le_pow_right (by decide) (by omega)
          omega
        have hp := Nat.two_pow_pos (32 - s)
        have e0 : x * 2 ^ s % 4294967296 = (x % 2 ^ (32 - s)) * 2 ^ s := by rw [← hs, Nat.mul_comm x, Nat.mul_mod_mul_left, Nat.mul_comm]
        have e1 : x * 2 ^ s % 4294967296 + c < 4294967296 := by
          rw [e0, ← hs]
          have h1 : x % 2 ^ (32 - s) + 1 ≤ 2 ^ (32 - s) := Nat.mod_lt _ hp
          have h2 : (x % 2 ^ (32 - s) + 1) * 2 ^ s ≤ 2 ^ (32 - s) * 2 ^ s := Nat.mul_le_mul_right _ h1
          rw [Nat.add_mul, Nat.one_mul, Nat.mul_comm (2 ^ (32 - s)) (2 ^ s)] at h2
          omega
        have hcn : x / 2 ^ (32 - s) < 2 ^ s := by
          rw [Nat.div_lt_iff_lt_mul hp, hs]
          exact hx
        have hsplit : 2 ^ s * x = x * 2 ^ s % 4294967296 + 4294967296 * (x / 2 ^ (32 - s)) := by
          rw [e0, ← hs, Nat.mul_assoc, Nat.mul_comm (x % _), ← Nat.mul_add, Nat.mod_add_div]
        obtain ⟨m, hm⟩ := ih (j + 1) (x / 2 ^ (32 - s)) (q ++ [x * 2 ^ s % 4294967296 + c]) (by omega) (by simp [hql]) (Dy.digs_append.2 ⟨hqd, Dy.digs_cons.2 ⟨e1, Dy.digs_nil⟩⟩) hcn (by
            rw [← hv, Dy.val_snoc, hql, Dy.pow_split, Nat.mul_add (2 ^ s), hsplit]
            generalize x * 2 ^ s % 4294967296 = lo
            generalize x / 2 ^ (32 - s) = hi
            generalize 2 ^ (32 * j) = p
            rw [Nat.mul_left_comm (2 ^ s) 4294967296]
            simp only [Nat.mul_add, Nat.mul_assoc]
            omega)
        refine iterN_next m ?_
        rw [vc_nat_up_1]
        simp only [Int.toNat_natCast, List.length_cons, List.length_nil]
        rw [hxx]
        have hmin : min s 32 = s := by omega
        have hpow : ((2 : Int) ^ s) = ((2 ^ s : Nat) : Int) := by simp
        have e2 : IntKind.u32.wrap ((x : Int) * 2 ^ min s 32) = ((x * 2 ^ s % 4294967296 : Nat) : Int) := by
          rw [hmin, hpow, wrap_u32, ← Int.natCast_mul]
          omega
        have e3 : (x * 2 ^ s % 4294967296) ||| c = x * 2 ^ s % 4294967296 + c := by rw [e0, or_low hc]
        rw [e2, w32_or (by omega) (by omega) (by omega) (by omega)]
        simp only [Int.toNat_natCast]
        rw [e3]
        have e4 : IntKind.i64.wrap ((32 : Int) - (s : Int)) = ((32 - s : Nat) : Int) := by rw [wrap_i64 (by omega) (by omega)]; omega
        have e5 : IntKind.u64.wrap (x : Int) = (x : Int) := by rw [wrap_u64]; omega
        rw [e4, e5]
        simp only [Int.toNat_natCast]
        rw [Nat.min_eq_left (by omega : 32 - s ≤ 64), fdiv_pow (by omega), Int.toNat_natCast]
        have e6 : IntKind.u32.wrap ((x / 2 ^ (32 - s) : Nat) : Int) = ((x / 2 ^ (32 - s) : Nat) : Int) := by
          have : x / 2 ^ (32 - s) ≤ x := Nat.div_le_self _ _
          generalize x / 2 ^ (32 - s) = y at this ⊢
          rw [wrap_u32]
          omega
        rw [e6, wrap_i64 (by omega) (by omega), List.append_assoc]
        exact cond_t (decide_eq_true (by omega)) ⟨by omega, by omega, ⟨by omega, by rw [List.length_append]; omega⟩, by omega, hm⟩
    have := key a.length 0 0 [] (by omega) rfl Dy.digs_nil (Nat.two_pow_pos _) (by simp [Dy.val]; exact Nat.mul_comm _ _)
    rw [List.append_nil] at this
    exact this
  · cases h

theorem ok_nat_up (args : List AV) (s : Spec) (h : sUp args = some s) (hp : andO s.pre True) : Contract Tryd.prog Inv 63 args s.res := by
  unfold sUp at h
  split at h
  · cases h
    rename_i a n
    obtain ⟨⟨hn, hn1, hal⟩, -⟩ := hp
    refine contract_at false 50 lamUp ok_tab2 Tryd.func63 (by kernel_rfl) rfl (loops1 (by kernel_rfl) (by kernel_rfl) loop_nat_up) fun hok => ?_
    have ha := (oks1_dig hok).1
    obtain ⟨n, rfl⟩ := Int.eq_ofNat_of_zero_le hn
    rw [vc_nat_up]
    refine cond_i (fun h => ?_) (fun h => ?_)
    · have h := of_decide_eq_true h
      have : a = [] := List.length_eq_zero_iff.1 (by omega)
      subst this
      simp [Dy.val, Dy.dg_zero]
    · have e1 : IntKind.i64.wrap ((n : Int).tdiv 32) = ((n / 32 : Nat) : Int) := by
        rw [Int.tdiv_eq_ediv_of_nonneg (by omega), wrap_i64 (by omega) (by omega)]; omega
      have e2 : (n : Int).tmod 32 = ((n % 32 : Nat) : Int) := by rw [Int.tmod_eq_emod_of_nonneg (by omega)]; omega
      rw [e1, e2]
      simp only [Int.toNat_natCast, List.length_replicate, List.length_append, Dy.dgN_length, List.length_cons, List.length_nil]
      rw [wrap_i64 (n := ((n / 32 : Nat) : Int) + (a.length : Int)) (by omega) (by omega), wrap_i64 (by omega) (by omega)]
      refine ⟨⟨by omega, by omega, by omega⟩, ⟨ha, hal, by omega, by omega, by omega, by simp, by simp, by simp⟩, ⟨by omega, by omega⟩, ?_⟩
      rw [Dy.val_snoc, Dy.val_append, Dy.val_replicate, Dy.val_dgN]
      simp only [List.length_append, List.length_replicate, Dy.dgN_length]
      rw [Nat.zero_add, Nat.mul_add, Nat.pow_add, Nat.mul_assoc, ← Nat.mul_add, Nat.mod_add_div, Nat.mul_comm, Nat.mul_assoc, ← Nat.pow_add, show n % 32 + 32 * (n / 32) = n by omega]
  · cases h

/-- a digit of a number shifted down -/
theorem down_digit {a : List Nat} (ha : Dy.digs a) {s : Nat} (hs : s < 32) (j : Nat) : Dy.val a / 2 ^ s / 2 ^ (32 * j) % 4294967296 = (a.getD j 0 / 2 ^ s) + (a.getD (j + 1) 0 * 2 ^ (32 - s)) % 4294967296 := by
  have e1 : Dy.val a / 2 ^ s / 2 ^ (32 * j) = Dy.val (a.drop j) / 2 ^ s := by
    rw [Dy.val_drop ha, Nat.div_div_eq_div_mul, Nat.div_div_eq_div_mul, Nat.mul_comm]
  rw [e1, Dy.val_drop_step, Dy.val_drop_step a (j + 1)]
  have hx := Dy.digs_getD ha j
  generalize a.getD j 0 = x at hx
  generalize a.getD (j + 1) 0 = y
  generalize Dy.val (a.drop (j + 1 + 1)) = r
  have hsp : 2 ^ s * 2 ^ (32 - s) = 4294967296 := by rw [← Nat.pow_add, show s + (32 - s) = 32 by omega]
  have hp := Nat.two_pow_pos s
  have hp' := Nat.two_pow_pos (32 - s)
  have e2 : (x + 4294967296 * (y + 4294967296 * r)) / 2 ^ s = x / 2 ^ s + 2 ^ (32 - s) * (y + 4294967296 * r) := by
    rw [← hsp, Nat.mul_assoc (2 ^ s), Nat.add_mul_div_left _ _ hp]
  have e3 : x / 2 ^ s < 2 ^ (32 - s) := by rw [Nat.div_lt_iff_lt_mul hp, Nat.mul_comm, hsp]; exact hx
  have e4 : y * 2 ^ (32 - s) % 4294967296 = (y % 2 ^ s) * 2 ^ (32 - s) := by rw [← hsp, Nat.mul_mod_mul_right]
  have e5 : y * 2 ^ (32 - s) % 4294967296 + x / 2 ^ s < 4294967296 := by
    rw [e4, ← hsp]
    have h1 : y % 2 ^ s + 1 ≤ 2 ^ s := Nat.mod_lt _ hp
    have h2 : (y % 2 ^ s + 1) * 2 ^ (32 - s) ≤ 2 ^ s * 2 ^ (32 - s) := Nat.mul_le_mul_right _ h1
    rw [Nat.add_mul, Nat.one_mul] at h2
    omega
  rw [e2, Nat.mul_add, Nat.mul_left_comm, Nat.mul_comm (2 ^ (32 - s)) y]
  generalize x / 2 ^ s = u at e5 ⊢
  generalize y * 2 ^ (32 - s) = v at e5 ⊢
  omega

theorem loop_nat_down : LoopOk Tryd.prog (look tab2) lamDown 2 60 keepDown (bodyN Tryd.f61 0) lsDown := by
  intro vals r h K hK
  unfold lsDown at h
  split at h
  · cases h
    rename_i a' s o a k i
    simp only [evLR] at hK
    obtain ⟨⟨rfl, ha, hs0, hs1, rfl, rfl, rfl⟩, hK⟩ := hK
    have ha1 := ha.1
    obtain ⟨s, rfl⟩ := Int.eq_ofNat_of_zero_le hs0
    simp only [Int.toNat_natCast] at hK
    have hs : s < 32 := by omega
    have key : ∀ (u j : Nat) (o : List Nat), a.length = u + j → o.length = a.length → Dy.digs o → o.take j = Dy.dgN j (Dy.val a / 2 ^ s) →
        ∃ m, iterN Tryd.prog (look tab2) lamDown 2 60 keepDown (bodyN Tryd.f61 0) m [.dig [1, 2, 3] a, .num .i64 s, .grown 48 o, .dig [1, 2, 3] a, .num .i64 a.length, .num .i64 j] K := by
      intro u
      induction u with
      | zero =>
        intro j o hj hol hod hv
        refine iterN_last ?_
        rw [vc_nat_down_1]
        refine cond_f (decide_eq_false (by omega)) ?_
        have hja : j = a.length := by omega
        subst hja
        rw [List.take_of_length_le (by omega)] at hv
        rw [hv]
        exact hK
      | succ u ih =>
        intro j o hj hol hod hv
        have hdig := down_digit ha.2 hs j
        have hx := Dy.digs_getD ha.2 j
        have hy := Dy.digs_getD ha.2 (j + 1)
        have hd : Dy.val a / 2 ^ s / 2 ^ (32 * j) % 4294967296 < 4294967296 := Nat.mod_lt _ (by decide)
        obtain ⟨m, hm⟩ := ih (j + 1) (o.set j (Dy.val a / 2 ^ s / 2 ^ (32 * j) % 4294967296)) (by omega) (by simpa using hol) (Dy.digs_set hod hd) (by
          rw [Dy.take_set_succ (by omega), hv, Dy.dgN_succ])
        refine iterN_next m ?_
        rw [vc_nat_down_1]
        rw [hdig] at hm hd
        have hw : IntKind.i64.wrap ((j : Int) + 1) = ((j + 1 : Nat) : Int) := by rw [wrap_i64 (by omega) (by omega)]; omega
        rw [hw]
        simp only [Int.toNat_natCast, List.length_set]
        rw [Nat.min_eq_left (by omega : s ≤ 32), fdiv_pow (by omega)]
        simp only [Int.toNat_natCast]
        have hxs : a.getD j 0 / 2 ^ s ≤ a.getD j 0 := Nat.div_le_self _ _
        refine cond_t (decide_eq_true (by omega)) ⟨by omega, by omega, by omega, by omega, cond_i (fun h => ?_) (fun h => ?_)⟩
        · have h := of_decide_eq_true h
          have e4 : IntKind.i64.wrap ((32 : Int) - (s : Int)) = ((32 - s : Nat) : Int) := by rw [wrap_i64 (by omega) (by omega)]; omega
          rw [e4]
          simp only [Int.toNat_natCast]
          have hg : (o.set j (a.getD j 0 / 2 ^ s)).getD j 0 = a.getD j 0 / 2 ^ s := by simp [List.getD_eq_getElem?_getD, show j < o.length by omega]
          rw [hg, List.set_set, Nat.min_eq_left (by omega : 32 - s ≤ 64)]
          have hpow : ((2 : Int) ^ (32 - s)) = ((2 ^ (32 - s) : Nat) : Int) := by simp
          have hp32 : 2 ^ (32 - s) ≤ 2 ^ 32 := Nat.pow_le_pow_right (by decide) (by omega)
          have e5 : IntKind.u32.wrap (IntKind.u64.wrap (IntKind.u64.wrap ((a.getD (j + 1) 0 : Nat) : Int) * 2 ^ (32 - s))) = ((a.getD (j + 1) 0 * 2 ^ (32 - s) % 4294967296 : Nat) : Int) := by
            rw [hpow]
            have q1 : IntKind.u64.wrap ((a.getD (j + 1) 0 : Nat) : Int) = ((a.getD (j + 1) 0 : Nat) : Int) := by rw [wrap_u64]; omega
            rw [q1, ← Int.natCast_mul, wrap_u64, wrap_u32]
            generalize a.getD (j + 1) 0 * 2 ^ (32 - s) = v
            omega
          have hlo : a.getD j 0 / 2 ^ s < 2 ^ (32 - s) := by
            rw [Nat.div_lt_iff_lt_mul (Nat.two_pow_pos s), ← Nat.pow_add, show 32 - s + s = 32 by omega]; exact hx
          have e6 : a.getD (j + 1) 0 * 2 ^ (32 - s) % 4294967296 = (a.getD (j + 1) 0 % 2 ^ s) * 2 ^ (32 - s) := by
            rw [show (4294967296 : Nat) = 2 ^ s * 2 ^ (32 - s) by rw [← Nat.pow_add, show s + (32 - s) = 32 by omega], Nat.mul_mod_mul_right]
          rw [e5, w32_or (by omega) (by omega) (by omega) (by omega)]
          simp only [Int.toNat_natCast]
          rw [e6, Nat.or_comm, or_low hlo, Nat.add_comm (a.getD (j + 1) 0 % 2 ^ s * 2 ^ (32 - s)), ← e6]
          exact ⟨by omega, by omega, by omega, by omega, by omega, by omega, hm⟩
        · have h := of_decide_eq_false h
          have hb0 : a.getD (j + 1) 0 = 0 := by rw [List.getD_eq_getElem?_getD, List.getElem?_eq_none (by omega)]; rfl
          rw [hb0, Nat.zero_mul, Nat.zero_mod, Nat.add_zero] at hm
          exact hm
    exact key a.length 0 _ (by omega) (by simp) (Dy.digs_replicate _) (by simp [Dy.dgN])
  · cases h

theorem ok_nat_down (args : List AV) (s : Spec) (h : sDown args = some s) (hp : andO s.pre True) : Contract Tryd.prog Inv 61 args s.res := by
  unfold sDown at h
  split at h
  · cases h
    rename_i a n
    obtain ⟨⟨hn, hal⟩, -⟩ := hp
    refine contract_at false 60 lamDown ok_tab2 Tryd.func61 (by kernel_rfl) rfl (loops1 (by kernel_rfl) (by kernel_rfl) loop_nat_down) fun hok => ?_
    have ha := (oks1_dig hok).1
    have hr := range_i64 (oks1_num (oks1_dig hok).2).1
    obtain ⟨n, rfl⟩ := Int.eq_ofNat_of_zero_le hn
    rw [vc_nat_down]
    have e1 : IntKind.i64.wrap ((n : Int).tdiv 32) = ((n / 32 : Nat) : Int) := by
      rw [Int.tdiv_eq_ediv_of_nonneg (by omega), wrap_i64 (by omega) (by omega)]; omega
    have e2 : (n : Int).tmod 32 = ((n % 32 : Nat) : Int) := by rw [Int.tmod_eq_emod_of_nonneg (by omega)]; omega
    rw [e1, e2]
    simp only [Int.toNat_natCast]
    have hpow : 2 ^ (32 * (n / 32)) * 2 ^ (n % 32) = 2 ^ n := by rw [← Nat.pow_add, show 32 * (n / 32) + n % 32 = n by omega]
    refine cond_i (fun h => ?_) (fun h => ?_)
    · have h := of_decide_eq_true h
      have h0 : Dy.val a / 2 ^ n = 0 := Nat.div_eq_of_lt (Nat.lt_of_lt_of_le (Dy.val_lt ha.2) (Nat.pow_le_pow_right (by decide) (by omega)))
      rw [h0, Dy.dg_zero]
    · have h := of_decide_eq_false h
      have hl : (a.drop (n / 32)).length ≤ a.length := by simp
      refine ⟨by omega, ⟨by omega, by omega, by omega⟩, ⟨by simp, Dy.okl_drop ha _, by omega, by omega, by simp, by simp, by simp⟩, ?_⟩
      rw [Dy.dg_val_dgN (Nat.lt_of_le_of_lt (Nat.div_le_self _ _) (Dy.val_lt (Dy.digs_drop ha.2 _))), Dy.val_drop ha.2, Nat.div_div_eq_div_mul, hpow]
  · cases h

theorem ok_nat_Len (args : List AV) (s : Spec) (h : sLen args = some s) (hp : andO s.pre True) : Contract Tryd.prog Inv 26 args s.res := by
  unfold sLen at h
  split at h
  · cases h
    rename_i a
    refine contract0 false ok_tab2 Tryd.func26 (by kernel_rfl) (by kernel_rfl) fun hok => ?_
    have ha := (oks1_dig hok).1
    have ha1 := ha.1
    rw [vc_nat_Len]
    refine cond_i (fun h => ?_) (fun h => cond_i (fun h' => ?_) (fun h' => ?_))
    · simp at h
      unfold Dy.lenN
      rw [h]
      rfl
    · have h' := of_decide_eq_true h'
      have : a = [] := List.length_eq_zero_iff.1 (by omega)
      subst this
      have e : Dy.lenN [] = 0 := by unfold Dy.lenN; split <;> rfl
      rw [e]
      rfl
    · have h' := of_decide_eq_false h'
      simp only [Bool.not_eq_false'] at h
      have hm := Dy.may_len h
      have hne : a ≠ [] := fun e => h' (by rw [e]; rfl)
      have hc := (Dy.can_iff ha.2).1 (Dy.may_dg h)
      have hb := Dy.bl_digits ha.2 hne (hc.resolve_left hne)
      have hx := Dy.digs_getD ha.2 (a.length - 1)
      rw [wrap_i64 (n := (a.length : Int) - 1) (by omega) (by omega), show ((a.length : Int) - 1).toNat = a.length - 1 by omega]
      refine ⟨by omega, ?_⟩
      rw [Int.toNat_natCast, Dy.bitLen_eq (by omega)]
      unfold Dy.lenN
      rw [if_pos h, hb]
      have hbx := (Dy.bl_le (n := a.getD (a.length - 1) 0) (k := 32)).2 hx
      rw [wrap_i64 (n := 32 * ((a.length : Int) - 1)) (by omega) (by omega), wrap_i64 (by omega) (by omega)]
      congr 1
      omega
  · cases h

theorem loop_nat_Low : LoopOk Tryd.prog (look tab2) lamLow 1 23 keepLow (bodyN Tryd.f62 0) lsLow := by
  intro vals r h K hK
  unfold lsLow at h
  split at h
  · cases h
    rename_i r a k i
    simp only [evLR] at hK
    obtain ⟨⟨ha, ha1, rfl, rfl⟩, hK⟩ := hK
    have key : ∀ (u j : Nat), a.length = u + j → Dy.val (a.take j) = 0 →
        ∃ m, iterN Tryd.prog (look tab2) lamLow 1 23 keepLow (bodyN Tryd.f62 0) m [.num .i64 r, .dig [1, 2] a, .num .i64 a.length, .num .i64 j] K := by
      intro u
      induction u with
      | zero =>
        intro j hj hv
        refine iterN_last ?_
        rw [vc_nat_Low_1]
        refine cond_f (decide_eq_false (by omega)) ?_
        have hja : j = a.length := by omega
        subst hja
        rw [List.take_length] at hv
        rw [decide_eq_true hv] at hK
        exact hK
      | succ u ih =>
        intro j hj hv
        have hx := Dy.digs_getD ha.2 j
        by_cases c : a.getD j 0 = 0
        · obtain ⟨m, hm⟩ := ih (j + 1) (by omega) (by rw [Dy.val_take_succ (by omega), hv, c]; simp)
          refine iterN_next m ?_
          rw [vc_nat_Low_1, Int.toNat_natCast, wrap_i64 (n := (j : Int) + 1) (by omega) (by omega)]
          exact cond_t (decide_eq_true (by omega)) ⟨by omega, cond_f (by rw [decide_eq_true (by omega)]; rfl) hm⟩
        · refine iterN_last ?_
          rw [vc_nat_Low_1, Int.toNat_natCast]
          have htz := Dy.tz_digits hv (by omega) c hx
          have hne : Dy.val a ≠ 0 := by
            rw [Dy.val_take_drop a j (by omega), hv, Nat.zero_add, Dy.val_drop_step]
            have := Nat.two_pow_pos (32 * j)
            exact Nat.mul_ne_zero (by omega) (by omega)
          rw [decide_eq_false hne] at hK
          have h32 : Dy.tz (a.getD j 0) < 32 := by
            have := Dy.tz_lt_bl c
            have := (Dy.bl_le (n := a.getD j 0) (k := 32)).2 hx
            omega
          refine cond_t (decide_eq_true (by omega)) ⟨by omega, cond_t (by rw [decide_eq_false (by omega)]; rfl) ⟨by omega, ?_⟩⟩
          rw [Int.toNat_natCast, Dy.ctz_eq c hx, wrap_i64 (n := 32 * (j : Int)) (by omega) (by omega), wrap_i64 (by omega) (by omega)]
          have e1 : (32 * (j : Int) + (Dy.tz (a.getD j 0) : Int)) = ((Dy.tz (Dy.val a) : Nat) : Int) := by omega
          have e2 : (j : Int) = ((Dy.tz (Dy.val a) / 32 : Nat) : Int) := by omega
          rw [e1]
          simp only [cond_false, ← e2] at hK
          exact hK
    exact key a.length 0 (by omega) rfl
  · cases h

theorem ok_nat_Low (args : List AV) (s : Spec) (h : sLow args = some s) (hp : andO s.pre True) : Contract Tryd.prog Inv 62 args s.res := by
  unfold sLow at h
  split at h
  · cases h
    rename_i a
    refine contract_at false 23 lamLow ok_tab2 Tryd.func62 (by kernel_rfl) rfl (loops1 (by kernel_rfl) (by kernel_rfl) loop_nat_Low) fun hok => ?_
    have ha := (oks1_dig hok).1
    rw [vc_nat_Low]
    unfold Dy.lowN
    refine cond_i (fun h => ?_) (fun h => ?_)
    · simp at h
      rw [h]
      rfl
    · simp only [Bool.not_eq_false'] at h
      have hm := Dy.may_len h
      refine ⟨⟨ha, by omega, rfl, rfl⟩, cond_i (fun h' => ?_) (fun h' => ?_)⟩
      · rw [if_pos h, of_decide_eq_true h', Dy.tz_zero]
        rfl
      · rw [if_pos h]
  · cases h

theorem ok_tab3 : PhiOk Tryd.prog Inv (look tab3) :=
  look_cons (look_cons (look_cons (look_cons (look_cons (look_cons (look_cons (look_cons ok_tab2 ok_nat_Add) ok_nat_Low) ok_nat_Len) ok_nat_down) ok_nat_up) ok_nat_small) ok_nat_mul) ok_nat_sub

theorem ok_nat_Sub (args : List AV) (s : Spec) (h : sSub args = some s) (hp : andO s.pre True) : Contract Tryd.prog Inv 66 args s.res := by
  unfold sSub at h
  split at h
  · cases h
    rename_i a b
    refine contract0 false ok_tab3 Tryd.func66 (by kernel_rfl) (by kernel_rfl) fun hok => ?_
    rw [vc_nat_Sub]
    unfold Dy.subR
    refine cond_i (fun h => ?_) (fun h => ?_)
    · simp only [Bool.not_eq_true'] at h
      rw [h]
      rfl
    · simp only [Bool.not_eq_false'] at h
      obtain ⟨m1, m2⟩ := (Bool.and_eq_true_iff).1 h
      have := Dy.may_len m1
      rw [h]
      unfold Dy.subN
      refine ⟨⟨Dy.may_dg m1, Dy.may_dg m2⟩, cond_i (fun h' => ?_) (fun h' => ?_)⟩
      · have h' := Dy.cmpN_neg.1 (of_decide_eq_true h')
        simp only [if_true, if_pos h']
      · have h' : ¬ Dy.val a < Dy.val b := fun e => of_decide_eq_false h' (Dy.cmpN_neg.2 e)
        simp only [if_true, if_neg h']
        exact ⟨by omega, trivial⟩
  · cases h

theorem ok_nat_Cmp (args : List AV) (s : Spec) (h : sCmpX args = some s) (hp : andO s.pre True) : Contract Tryd.prog Inv 74 args s.res := by
  unfold sCmpX at h
  split at h
  · cases h
    rename_i a b
    refine contract0 false ok_tab3 Tryd.func74 (by kernel_rfl) (by kernel_rfl) fun hok => ?_
    rw [vc_nat_Cmp]
    unfold Dy.cmpR
    refine cond_i (fun h => ?_) (fun h => ?_)
    · simp only [Bool.not_eq_true'] at h
      rw [h]
      rfl
    · simp only [Bool.not_eq_false'] at h
      obtain ⟨m1, m2⟩ := (Bool.and_eq_true_iff).1 h
      rw [h]
      exact ⟨⟨Dy.may_dg m1, Dy.may_dg m2⟩, rfl⟩
  · cases h

theorem ok_nat_Mul (args : List AV) (s : Spec) (h : sMul args = some s) (hp : andO s.pre True) : Contract Tryd.prog Inv 87 args s.res := by
  unfold sMul at h
  split at h
  · cases h
    rename_i a b
    refine contract0 false ok_tab3 Tryd.func87 (by kernel_rfl) (by kernel_rfl) fun hok => ?_
    rw [vc_nat_Mul]
    unfold Dy.mulR
    refine cond_i (fun h => ?_) (fun h => ?_)
    · simp only [Bool.not_eq_true'] at h
      rw [h]
      rfl
    · simp only [Bool.not_eq_false'] at h
      obtain ⟨m1, m2⟩ := (Bool.and_eq_true_iff).1 h
      have l1 := Dy.may_len m1
      have l2 := Dy.may_len m2
      rw [h, Dy.bound_eq]
      refine cond_i (fun h1 => cond_i (fun h2 => cond_i (fun h3 => ?_) (fun h3 => ⟨by omega, by rintro _ rfl _ rfl; rfl⟩)) (fun h2 => ⟨by omega, by rintro _ rfl _ rfl; rfl⟩)) (fun h1 => ⟨by omega, by rintro _ rfl _ rfl; rfl⟩)
      have h1 := of_decide_eq_true h1
      have h2 := of_decide_eq_true h2
      have h3 := of_decide_eq_true h3
      rw [wrap_i64 (n := (a.length : Int) + b.length) (by omega) (by omega), wrap_i64 (by omega) (by omega)] at h3
      have n1 : Dy.val a ≠ 0 := fun e => by have := (Dy.may_nil m1).1 e; subst this; simp at h1
      have n2 : Dy.val b ≠ 0 := fun e => by have := (Dy.may_nil m2).1 e; subst this; simp at h2
      have q1 := Dy.le_of_length n1
      have q2 := Dy.le_of_length n2
      rw [Dy.may_dg m1] at q1
      rw [Dy.may_dg m2] at q2
      have q3 : ¬ (Dy.dg (Dy.val a * Dy.val b)).length ≤ 4096 := Dy.long_mul q1 q2 (by omega)
      rw [if_neg q3, if_neg q3]
  · cases h

theorem ok_nat_Shift (args : List AV) (s : Spec) (h : sShift args = some s) (hp : andO s.pre True) : Contract Tryd.prog Inv 44 args s.res := by
  unfold sShift at h
  split at h
  · cases h
    rename_i a n
    refine contract0 false ok_tab3 Tryd.func44 (by kernel_rfl) (by kernel_rfl) fun hok => ?_
    have ha := (oks1_dig hok).1
    have hr := range_i64 (oks1_num (oks1_dig hok).2).1
    rw [vc_nat_Shift]
    unfold Dy.shiftN
    refine cond_i (fun h => ?_) (fun h => cond_i (fun h1 => ?_) (fun h1 => ?_))
    · simp only [Bool.not_eq_true'] at h
      simp only [h]
      rfl
    · have h1 := of_decide_eq_true h1
      have : a = [] := List.length_eq_zero_iff.1 (by omega)
      subst this
      simp only [Bool.not_eq_false'] at h
      simp only [h, if_true, Dy.val]
    · simp only [Bool.not_eq_false'] at h
      have h1 := of_decide_eq_false h1
      have hl := Dy.may_len h
      have hv : Dy.val a ≠ 0 := fun e => h1 (by rw [(Dy.may_nil h).1 e]; rfl)
      have hbl : Dy.bl (Dy.val a) ≤ 32 * a.length := Dy.bl_le.2 (Dy.val_lt ha.2)
      have htz := Dy.tz_lt_bl hv
      simp only [if_pos h, if_neg hv, Dy.lowN, Dy.lenN]
      refine cond_i (fun h2 => ?_) (fun h2 => cond_i (fun h3 => ?_) (fun h3 => ?_))
      · have h2 := of_decide_eq_true h2
        have h0 : Dy.val a / 2 ^ (-n).toNat = 0 := Nat.div_eq_of_lt (Nat.lt_of_lt_of_le (Dy.val_lt ha.2) (Nat.pow_le_pow_right (by decide) (by omega)))
        rw [if_pos (by omega), h0, Dy.dg_zero, decide_eq_true (by omega)]
      · have h2 := of_decide_eq_false h2
        have h3 := of_decide_eq_true h3
        rw [if_pos h3, wrap_i64 (by omega) (by omega), show (0 : Int) - n = -n by omega]
        exact ⟨by omega, rfl⟩
      · have h3 := of_decide_eq_false h3
        rw [if_neg h3, wrap_i64 (by omega) (by omega)]
        refine cond_i (fun h4 => ?_) (fun h4 => ?_)
        · have h4 := of_decide_eq_true h4
          rw [if_pos (by omega)]
        · have h4 := of_decide_eq_false h4
          rw [if_neg (by omega)]
          exact ⟨by omega, rfl⟩
  · cases h

theorem ok_tab4 : PhiOk Tryd.prog Inv (look tab4) := look_cons (look_cons (look_cons (look_cons ok_tab3 ok_nat_Shift) ok_nat_Cmp) ok_nat_Mul) ok_nat_Sub

end Go.AI

namespace Go.Dy
/-- the lowest place at which two lists differ -/
def diffU : List Nat → List Nat → Nat
  | x :: a, y :: b => if x = y then diffU a b + 1 else 0
  | _, _ => 0
end Go.Dy
namespace Go.AI
open Go Go.RowKit Go.Proofs
set_option linter.unusedVariables false
def sSame : List AV → Option Spec
  | [.dig [1] a, .dig [2] b] => some ⟨none, .bool (decide (a = b))⟩
  | _ => none
def rAdd : List AV → Option Spec
  | [.dig [1] a, .dig [2] b] => some ⟨some (a.length ≤ 1048576 ∧ b.length ≤ 1048576), .dig [0] (Dy.dg (Dy.val a + Dy.val b))⟩
  | _ => none
def rLen : List AV → Option Spec
  | [.dig [1] a] => some ⟨some (Dy.dg (Dy.val a) = a ∧ a.length ≤ 1048576), .num .i64 (Dy.bl (Dy.val a) : Nat)⟩
  | _ => none
def rBit : List AV → Option Spec
  | [.dig [1] a, .num .i64 i] => some ⟨none, .num .u32 (if i < 0 then 0 else Dy.val a / 2 ^ i.toNat % 2 : Nat)⟩
  | _ => none
def rLow : List AV → Option Spec
  | [.dig [1] a] => some ⟨some (Dy.dg (Dy.val a) = a ∧ a.length ≤ 1048576), .num .i64 (Dy.tz (Dy.val a) : Nat)⟩
  | _ => none
def rDown : List AV → Option Spec
  | [.dig [1] a, .num .i64 n] => some ⟨some (Dy.dg (Dy.val a) = a ∧ 0 ≤ n ∧ a.length ≤ 1048576), .tup [.dig [0] (Dy.dg (Dy.val a / 2 ^ n.toNat)), .bool (decide (Dy.val a ≠ 0 ∧ (Dy.tz (Dy.val a) : Int) < n))]⟩
  | _ => none
def tab5 : List (Nat × (List AV → Option Spec)) := (41, sTrim) :: (20, sMay) :: tab4
def tab6 : List (Nat × (List AV → Option Spec)) := (23, sOf) :: (19, sSame) :: (21, rLen) :: (60, rBit) :: tab5
def tab7 : List (Nat × (List AV → Option Spec)) := (39, rLow) :: tab6
def tab8 : List (Nat × (List AV → Option Spec)) := (40, rDown) :: tab7
end Go.AI

namespace Go.AI
open Go Go.RowKit Go.Proofs
set_option linter.unusedVariables false
set_option maxRecDepth 100000
set_option maxHeartbeats 0
def lsRTrim : List AV → Option LR
  | [.dig [1, 2] l, .num .i64 n] => some (.need (Dy.okl l ∧ n = l.length) (.done (.exit 0) [.dig [1, 2] l, .num .i64 (Dy.dg (Dy.val l)).length]))
  | _ => none
def keepRTrim : List (Nat × Keep) := [(0, .same), (3, .same)]
def lamRTrim := lam [(2, .spec keepRTrim lsRTrim)]
theorem vc_ref_Trim (l : List
  Nat) (Q : AV → Prop) : (evF Tryd.prog (look tab4) lamRTrim true Tryd.f41 [AV.dig [(1 : Nat)] l] Q) =
  ((Dy.okl l ∧ (↑l.length : Int) = (↑l.length : Int)) ∧
  ((0 : Int) ≤ (↑(Dy.dg (Dy.val l)).length : Int) ∧ (↑(Dy.dg (Dy.val l)).length : Int) ≤ (↑l.length : Int)) ∧
  Q (AV.dig [(0 : Nat), (1 : Nat)] (List.take (↑(Dy.dg (Dy.val l)).length : Int).toNat l))) := by kernel_rfl
theorem vc_ref_Trim_1 (l : List
  Nat) (n : Int) (K : Exit →
  List AV →
  Prop) : (evIter Tryd.prog (look tab4) lamRTrim (1 : Nat) (21 : Nat) keepRTrim (bodyN Tryd.f41 (0 : Nat))
  [AV.dig [(1 : Nat), (2 : Nat)] l, AV.num IntKind.i64 n] K) =
  (bif decide (n > (0 : Int)) then
  ((0 : Int) ≤ IntKind.i64.wrap (n - (1 : Int)) ∧ IntKind.i64.wrap (n - (1 : Int)) < (↑l.length : Int)) ∧
  bif decide ((↑(l.getD (IntKind.i64.wrap (n - (1 : Int))).toNat (0 : Nat)) : Int) = (0 : Int)) then
  K Exit.normal [AV.dig [(1 : Nat), (2 : Nat)] l, AV.num IntKind.i64 (IntKind.i64.wrap (n - (1 : Int)))]
  else K (Exit.exit (0 : Nat)) [AV.dig [(1 : Nat), (2 : Nat)] l, AV.num IntKind.i64 n]
 else K (Exit.exit (0 : Nat)) [AV.dig [(1 : Nat), (2 : Nat)] l, AV.num IntKind.i64 n]) := by kernel_rfl
theorem vc_ref_May (l : List
  Nat) (Q : AV → Prop) : (evF Tryd.prog (look tab4) (lam []) false Tryd.f20 [AV.dig [(1 : Nat)] l] Q) =
  (bif decide ((↑l.length : Int) ≤ (4096 : Int)) then
  bif decide ((↑l.length : Int) = (0 : Int)) then Q (AV.bool true)
  else
  ((0 : Int) ≤ IntKind.i64.wrap ((↑l.length : Int) - (1 : Int)) ∧
  IntKind.i64.wrap ((↑l.length : Int) - (1 : Int)) < (↑l.length : Int)) ∧
  Q
  (AV.bool
  !decide ((↑(l.getD (IntKind.i64.wrap ((↑l.length : Int) - (1 : Int))).toNat (0 : Nat)) : Int) = (0 : Int)))
 else Q (AV.bool false)) := by kernel_rfl
theorem vc_ref_Of (n : Int) (Q : AV →
  Prop) : (evF Tryd.prog (look tab5) (lam []) false Tryd.f23 [AV.num IntKind.u64 n] Q) =
  (Q
  (AV.dig [(0 : Nat)]
  (Dy.dg
  (Dy.val
  [(IntKind.u32.wrap n).toNat, (IntKind.u32.wrap (n.fdiv ((2 : Int) ^ (32 : Nat)))).toNat])))) := by kernel_rfl
def lsSame : List AV → Option LR
  | [.dig [1, 2, 3] a, .dig [1, 2, 3] b, .bool r, .num .i64 i] => some (.need (a.length = b.length ∧ i = 0 ∧ Dy.okl a) (.test (decide (a = b)) (.done (.exit 0) [.dig [1, 2, 3] a, .dig [1, 2, 3] b, .bool r, .num .i64 a.length])
  (.done .ret [.dig [1, 2, 3] a, .dig [1, 2, 3] b, .bool false, .num .i64 (Dy.diffU a b : Nat)])))
  | _ => none
def keepSame : List (Nat × Keep) := [(0, .same), (1, .same), (4, .same), (5, .same)]
def lamSame := lam [(4, .spec keepSame lsSame)]
theorem vc_ref_Same (a : List
  Nat) (b : List
  Nat) (Q : AV →
  Prop) : (evF Tryd.prog (look tab5) lamSame false Tryd.f19 [AV.dig [(1 : Nat)] a, AV.dig [(2 : Nat)] b] Q) =
  (bif !decide ((↑a.length : Int) = (↑b.length : Int)) then Q (AV.bool false)
 else
  (a.length = b.length ∧ (0 : Int) = (0 : Int) ∧ Dy.okl a) ∧
  bif decide (a = b) then Q (AV.bool true) else Q (AV.bool false)) := by kernel_rfl
theorem vc_ref_Same_1 (a : List
  Nat) (b : List
  Nat) (r : Bool) (i : Int) (K : Exit →
  List AV →
  Prop) : (evIter Tryd.prog (look tab5) lamSame (2 : Nat) (26 : Nat) keepSame (bodyN Tryd.f19 (0 : Nat))
  [AV.dig [(1 : Nat), (2 : Nat), (3 : Nat)] a, AV.dig [(1 : Nat), (2 : Nat), (3 : Nat)] b, AV.bool r,
  AV.num IntKind.i64 i]
  K) =
  (bif decide (i < (↑a.length : Int)) then
  ((0 : Int) ≤ i ∧ i < (↑a.length : Int)) ∧
  ((0 : Int) ≤ i ∧ i < (↑b.length : Int)) ∧
  bif !decide ((↑(a.getD i.toNat (0 : Nat)) : Int) = (↑(b.getD i.toNat (0 : Nat)) : Int)) then
  K Exit.ret
  [AV.dig [(1 : Nat), (2 : Nat), (3 : Nat)] a, AV.dig [(1 : Nat), (2 : Nat), (3 : Nat)] b, AV.bool false,
  AV.num IntKind.i64 i]
  else
  K Exit.normal
  [AV.dig [(1 : Nat), (2 : Nat), (3 : Nat)] a, AV.dig [(1 : Nat), (2 : Nat), (3 : Nat)] b, AV.bool r,
  AV.num IntKind.i64 (IntKind.i64.wrap (i + (1 : Int)))]
 else
  K (Exit.exit (0 : Nat))
  [AV.dig [(1 : Nat), (2 : Nat), (3 : Nat)] a, AV.dig [(1 : Nat), (2 : Nat), (3 : Nat)] b, AV.bool r,
  AV.num IntKind.i64 i]) := by kernel_rfl
def lsRCmp : List AV → Option LR
  | [.dig [1, 2, 3] a, .dig [1, 2, 3] b, .num .i64 r, .num .i64 i] => some (.need (a.length = b.length ∧ -1 ≤ i ∧ i < a.length ∧ a.length ≤ 2 ^ 45) (.test (decide (0 ≤ Dy.diffI a b (i + 1).toNat))
  (.done .ret [.dig [1, 2, 3] a, .dig [1, 2, 3] b, .num .i64 (if a.getD (Dy.diffI a b (i + 1).toNat).toNat 0 < b.getD (Dy.diffI a b (i + 1).toNat).toNat 0 then -1 else 1), .num .i64 (Dy.diffI a b (i + 1).toNat)])
  (.done (.exit 0) [.dig [1, 2, 3] a, .dig [1, 2, 3] b, .num .i64 r, .num .i64 (-1)])))
  | _ => none
def lamRCmp := lam [(6, .spec [(0, .same), (1, .same), (4, .same), (5, .same)] lsRCmp)]
def lsRAdd : List AV → Option LR
  | [.dig [1, 2, 3] a, .dig [1, 2, 3] b, .grown 48 o, .num .u64 c, .num .i64 i] =>
  some (.need (Dy.okl a ∧ Dy.okl b ∧ a.length ≤ 1048576 ∧ b.length ≤ 1048576 ∧ o = [] ∧ c = 0 ∧ i = 0)
  (.done (.exit 0) [.dig [1, 2, 3] a, .dig [1, 2, 3] b, .grown 48 (Dy.dgN (max a.length b.length) (Dy.val a + Dy.val b)), .num .u64 ((Dy.val a + Dy.val b) / 2 ^ (32 * max a.length b.length) : Nat), .num .i64 (max a.length b.length : Nat)]))
  | _ => none
def keepRAdd : List (Nat × Keep) := [(0, .same), (1, .same), (5, .grow 48), (6, .same), (7, .same)]
def lamRAdd := lam [(4, .spec keepRAdd lsRAdd)]
def lsRSub : List AV → Option LR
  | [.dig [1, 2, 3] a, .dig [1, 2, 3] b, .grown 48 o, .num .u64 c, .num .i64 i] =>
  some (.need (Dy.okl a ∧ Dy.okl b ∧ a.length ≤ 1048576 ∧ Dy.val b ≤ Dy.val a ∧ o = [] ∧ c = 0 ∧ i = 0)
  (.done (.exit 0) [.dig [1, 2, 3] a, .dig [1, 2, 3] b, .grown 48 (Dy.dgN a.length (Dy.val a - Dy.val b)), .num .u64 0, .num .i64 a.length]))
  | _ => none
def lamRSub := lam [(4, .spec keepRAdd lsRSub)]
def lsRLen : List AV → Option LR
  | [.num .i64 n, .num .u32 x] => some (.need (0 ≤ n ∧ n ≤ 1099511627776 ∧ 0 ≤ x ∧ x < 4294967296) (.done (.exit 0) [.num .i64 (n + (Dy.bl x.toNat : Nat)), .num .u32 0]))
  | _ => none
def keepRLen : List (Nat × Keep) := [(3, .same), (4, .same)]
def lamRLen := lam [(5, .spec keepRLen lsRLen)]
theorem vc_ref_Len (a : List
  Nat) (Q : AV → Prop) : (evF Tryd.prog (look tab5) lamRLen false Tryd.f21 [AV.dig [(1 : Nat)] a] Q) =
  (bif decide ((↑a.length : Int) = (0 : Int)) then Q (AV.num IntKind.i64 (0 : Int))
 else
  ((0 : Int) ≤ IntKind.i64.wrap ((↑a.length : Int) - (1 : Int)) ∧
  IntKind.i64.wrap ((↑a.length : Int) - (1 : Int)) < (↑a.length : Int)) ∧
  ((0 : Int) ≤ IntKind.i64.wrap ((32 : Int) * IntKind.i64.wrap ((↑a.length : Int) - (1 : Int))) ∧
  IntKind.i64.wrap ((32 : Int) * IntKind.i64.wrap ((↑a.length : Int) - (1 : Int))) ≤ (1099511627776 : Int) ∧
  (0 : Int) ≤ (↑(a.getD (IntKind.i64.wrap ((↑a.length : Int) - (1 : Int))).toNat (0 : Nat)) : Int) ∧
  (↑(a.getD (IntKind.i64.wrap ((↑a.length : Int) - (1 : Int))).toNat (0 : Nat)) : Int) < (4294967296 : Int)) ∧
  Q
  (AV.num IntKind.i64
  (IntKind.i64.wrap ((32 : Int) * IntKind.i64.wrap ((↑a.length : Int) - (1 : Int))) +
  (↑(Dy.bl (↑(a.getD (IntKind.i64.wrap ((↑a.length : Int) - (1 : Int))).toNat (0 : Nat)) : Int).toNat) :
  Int)))) := by kernel_rfl
theorem vc_ref_Len_1 (n : Int) (x : Int) (K : Exit →
  List AV →
  Prop) : (evIter Tryd.prog (look tab5) lamRLen (1 : Nat) (25 : Nat) keepRLen (bodyN Tryd.f21 (0 : Nat))
  [AV.num IntKind.i64 n, AV.num IntKind.u32 x] K) =
  (bif decide (x > (0 : Int)) then
  K Exit.normal
  [AV.num IntKind.i64 (IntKind.i64.wrap (n + (1 : Int))), AV.num IntKind.u32 (x.fdiv ((2 : Int) ^ (1 : Nat)))]
 else K (Exit.exit (0 : Nat)) [AV.num IntKind.i64 n, AV.num IntKind.u32 x]) := by kernel_rfl
theorem vc_ref_Bit (a : List
  Nat) (i : Int) (Q : AV →
  Prop) : (evF Tryd.prog (look tab5) (lam []) false Tryd.f60 [AV.dig [(1 : Nat)] a, AV.num IntKind.i64 i] Q) =
  (bif decide (i < (0 : Int)) then Q (AV.num IntKind.u32 (0 : Int))
 else
  bif decide (IntKind.i64.wrap (i.tdiv (32 : Int)) ≥ (↑a.length : Int)) then Q (AV.num IntKind.u32 (0 : Int))
  else
  ((0 : Int) ≤ IntKind.i64.wrap (i.tdiv (32 : Int)) ∧ IntKind.i64.wrap (i.tdiv (32 : Int)) < (↑a.length : Int)) ∧
  (0 : Int) ≤ i.tmod (32 : Int) ∧
  Q
  (AV.num IntKind.u32
  (IntKind.u32.wrap
  (↑(BitVec.ofInt (32 : Nat)
  ((↑(a.getD (IntKind.i64.wrap (i.tdiv (32 : Int))).toNat (0 : Nat)) : Int).fdiv
  ((2 : Int) ^ min (i.tmod (32 : Int)).toNat (32 : Nat))) &&&
  BitVec.ofInt (32 : Nat) (1 : Int)).toNat :
  Int)))) := by kernel_rfl
def lsRUp : List AV → Option LR
  | [.dig [1, 2, 3] a, .grown 48 o, .num .i64 s, .num .u64 c, .num .i64 i] =>
  some (.need (Dy.okl a ∧ a.length ≤ 1048576 ∧ 0 ≤ s ∧ s < 32 ∧ o.length ≤ 1048576 ∧ c = 0 ∧ i = 0)
  (.done (.exit 0) [.dig [1, 2, 3] a, .grown 48 (o ++ Dy.dgN a.length (Dy.val a * 2 ^ s.toNat)), .num .i64 s, .num .u64 (Dy.val a * 2 ^ s.toNat / 2 ^ (32 * a.length) : Nat), .num .i64 a.length]))
  | _ => none
def keepRUp : List (Nat × Keep) := [(0, .same), (5, .same), (6, .same), (7, .same), (8, .same)]
def lamRUp := lam [(7, .spec keepRUp lsRUp)]
def lsRLow : List AV → Option LR
  | [.dig [1, 2] a, .num .i64 n] => some (.need (Dy.okl a ∧ Dy.dg (Dy.val a) = a ∧ a.length ≤ 1048576 ∧ n = 0) (.done (.exit 0) [.dig [1, 2] a, .num .i64 (Dy.tz (Dy.val a) : Nat)]))
  | _ => none
def keepRLow : List (Nat × Keep) := [(0, .same), (3, .same)]
def lamRLow := lam [(2, .spec keepRLow lsRLow)]
theorem vc_ref_Low (a : List
  Nat) (Q : AV → Prop) : (evF Tryd.prog (look tab6) lamRLow false Tryd.f39 [AV.dig [(1 : Nat)] a] Q) =
  ((Dy.okl a ∧ Dy.dg (Dy.val a) = a ∧ a.length ≤ (1048576 : Nat) ∧ (0 : Int) = (0 : Int)) ∧
  bif decide ((↑(Dy.tz (Dy.val a)) : Int) = IntKind.i64.wrap ((32 : Int) * (↑a.length : Int))) then
  Q (AV.num IntKind.i64 (0 : Int))
  else Q (AV.num IntKind.i64 (↑(Dy.tz (Dy.val a)) : Int))) := by kernel_rfl
theorem vc_ref_Low_1 (a : List
  Nat) (n : Int) (K : Exit →
  List AV →
  Prop) : (evIter Tryd.prog (look tab6) lamRLow (1 : Nat) (31 : Nat) keepRLow (bodyN Tryd.f39 (0 : Nat))
  [AV.dig [(1 : Nat), (2 : Nat)] a, AV.num IntKind.i64 n] K) =
  (bif decide (n < IntKind.i64.wrap ((32 : Int) * (↑a.length : Int))) then
  bif
  decide
  ((↑(if n < (0 : Int) then (0 : Nat) else Dy.val a / (2 : Nat) ^ n.toNat % (2 : Nat)) : Int) = (0 : Int)) then
  ((0 : Int) ≤ IntKind.i64.wrap (n.tdiv (32 : Int)) ∧ IntKind.i64.wrap (n.tdiv (32 : Int)) < (↑a.length : Int)) ∧
  bif decide ((↑(a.getD (IntKind.i64.wrap (n.tdiv (32 : Int))).toNat (0 : Nat)) : Int) = (0 : Int)) then
  K Exit.normal [AV.dig [(1 : Nat), (2 : Nat)] a, AV.num IntKind.i64 (IntKind.i64.wrap (n + (32 : Int)))]
  else K Exit.normal [AV.dig [(1 : Nat), (2 : Nat)] a, AV.num IntKind.i64 (IntKind.i64.wrap (n + (1 : Int)))]
  else K (Exit.exit (0 : Nat)) [AV.dig [(1 : Nat), (2 : Nat)] a, AV.num IntKind.i64 n]
 else K (Exit.exit (0 : Nat)) [AV.dig [(1 : Nat), (2 : Nat)] a, AV.num IntKind.i64 n]) := by kernel_rfl
def lsRDown : List AV → Option LR
  | [.dig [1, 2, 3] a, .grown 48 o, .num .i64 s, .num .i64 i, .bool l] =>
  some (.need (Dy.okl a ∧ 0 ≤ s ∧ s < 32 ∧ o = [] ∧ 0 ≤ i ∧ i ≤ a.length ∧ a.length ≤ 1048576)
  (.done (.exit 0) [.dig [1, 2, 3] a, .grown 48 (Dy.dgN (a.length - i.toNat) (Dy.val (a.drop i.toNat) / 2 ^ s.toNat)), .num .i64 s, .num .i64 a.length, .bool l]))
  | _ => none
def keepRDown : List (Nat × Keep) := [(0, .same), (7, .grow 48), (8, .same), (9, .same), (6, .same)]
def lamRDown := lam [(7, .spec keepRDown lsRDown)]
theorem vc_ref_Down (a : List
  Nat) (n : Int) (Q : AV →
  Prop) : (evF Tryd.prog (look tab7) lamRDown false Tryd.f40 [AV.dig [(1 : Nat)] a, AV.num IntKind.i64 n] Q) =
  ((Dy.dg (Dy.val a) = a ∧ a.length ≤ (1048576 : Nat)) ∧
  bif decide (n ≥ (↑(Dy.bl (Dy.val a)) : Int)) then
  Q (AV.tup [AV.dig [(0 : Nat)] [], AV.bool (decide ((↑a.length : Int) > (0 : Int)))])
  else
  (Dy.dg (Dy.val a) = a ∧ a.length ≤ (1048576 : Nat)) ∧
  (Dy.okl a ∧
  (0 : Int) ≤ n.tmod (32 : Int) ∧
  n.tmod (32 : Int) < (32 : Int) ∧
  ([] : List Nat) = [] ∧
  (0 : Int) ≤ IntKind.i64.wrap (n.tdiv (32 : Int)) ∧
  IntKind.i64.wrap (n.tdiv (32 : Int)) ≤ (↑a.length : Int) ∧ a.length ≤ (1048576 : Nat)) ∧
  Q
  (AV.tup
  [AV.dig [(0 : Nat)]
  (Dy.dg
  (Dy.val
  (Dy.dgN (a.length - (IntKind.i64.wrap (n.tdiv (32 : Int))).toNat)
  (Dy.val (List.drop (IntKind.i64.wrap (n.tdiv (32 : Int))).toNat a) /
  (2 : Nat) ^ (n.tmod (32 : Int)).toNat)))),
  AV.bool (decide (n > (↑(Dy.tz (Dy.val a)) : Int)))])) := by kernel_rfl
theorem vc_ref_Down_1 (a : List
  Nat) (o : List
  Nat) (s : Int) (i : Int) (l : Bool) (K : Exit →
  List AV →
  Prop) : (evIter Tryd.prog (look tab7) lamRDown (2 : Nat) (63 : Nat) keepRDown (bodyN Tryd.f40 (0 : Nat))
  [AV.dig [(1 : Nat), (2 : Nat), (3 : Nat)] a, AV.grown (48 : TypeId) o, AV.num IntKind.i64 s, AV.num IntKind.i64 i,
  AV.bool l]
  K) =
  (bif decide (i < (↑a.length : Int)) then
  ((0 : Int) ≤ i ∧ i < (↑a.length : Int)) ∧
  (0 : Int) ≤ s ∧
  bif decide (IntKind.i64.wrap (i + (1 : Int)) < (↑a.length : Int)) then
  ((0 : Int) ≤ IntKind.i64.wrap (i + (1 : Int)) ∧ IntKind.i64.wrap (i + (1 : Int)) < (↑a.length : Int)) ∧
  (0 : Int) ≤ IntKind.i64.wrap ((32 : Int) - s) ∧
  ((0 : Nat) ≤
  [(IntKind.u32.wrap
  (IntKind.u64.wrap
  (↑(BitVec.ofInt (64 : Nat)
  ((IntKind.u64.wrap (↑(a.getD i.toNat (0 : Nat)) : Int)).fdiv
  ((2 : Int) ^ min s.toNat (64 : Nat))) |||
  BitVec.ofInt (64 : Nat)
  (IntKind.u64.wrap
  (IntKind.u64.wrap
  (↑(a.getD (IntKind.i64.wrap (i + (1 : Int))).toNat (0 : Nat)) : Int) *
  (2 : Int) ^
  min (IntKind.i64.wrap ((32 : Int) - s)).toNat (64 : Nat)))).toNat :
  Int))).toNat].length ∧
  o.length +
  [(IntKind.u32.wrap
  (IntKind.u64.wrap
  (↑(BitVec.ofInt (64 : Nat)
  ((IntKind.u64.wrap (↑(a.getD i.toNat (0 : Nat)) : Int)).fdiv
  ((2 : Int) ^ min s.toNat (64 : Nat))) |||
  BitVec.ofInt (64 : Nat)
  (IntKind.u64.wrap
  (IntKind.u64.wrap
  (↑(a.getD (IntKind.i64.wrap (i + (1 : Int))).toNat (0 : Nat)) : Int) *
  (2 : Int) ^
  min (IntKind.i64.wrap ((32 : Int) - s)).toNat (64 : Nat)))).toNat :
  Int))).toNat].length ≤
  (1099511627776 : Nat)) ∧
  K Exit.normal
  [AV.dig [(1 : Nat), (2 : Nat), (3 : Nat)] a,
  AV.grown (48 : Nat)
  (o ++
  [(IntKind.u32.wrap
  (IntKind.u64.wrap
  (↑(BitVec.ofInt (64 : Nat)
  ((IntKind.u64.wrap (↑(a.getD i.toNat (0 : Nat)) : Int)).fdiv
  ((2 : Int) ^ min s.toNat (64 : Nat))) |||
  BitVec.ofInt (64 : Nat)
  (IntKind.u64.wrap
  (IntKind.u64.wrap
  (↑(a.getD (IntKind.i64.wrap (i + (1 : Int))).toNat (0 : Nat)) : Int) *
  (2 : Int) ^
  min (IntKind.i64.wrap ((32 : Int) - s)).toNat (64 : Nat)))).toNat :
  Int))).toNat]),
  AV.num IntKind.i64 s, AV.num IntKind.i64 (IntKind.i64.wrap (i + (1 : Int))), AV.bool l]
  else
  ((0 : Nat) ≤
  [(IntKind.u32.wrap
  ((IntKind.u64.wrap (↑(a.getD i.toNat (0 : Nat)) : Int)).fdiv
  ((2 : Int) ^ min s.toNat (64 : Nat)))).toNat].length ∧
  o.length +
  [(IntKind.u32.wrap
  ((IntKind.u64.wrap (↑(a.getD i.toNat (0 : Nat)) : Int)).fdiv
  ((2 : Int) ^ min s.toNat (64 : Nat)))).toNat].length ≤
  (1099511627776 : Nat)) ∧
  K Exit.normal
  [AV.dig [(1 : Nat), (2 : Nat), (3 : Nat)] a,
  AV.grown (48 : Nat)
  (o ++
  [(IntKind.u32.wrap
  ((IntKind.u64.wrap (↑(a.getD i.toNat (0 : Nat)) : Int)).fdiv
  ((2 : Int) ^ min s.toNat (64 : Nat)))).toNat]),
  AV.num IntKind.i64 s, AV.num IntKind.i64 (IntKind.i64.wrap (i + (1 : Int))), AV.bool l]
 else
  K (Exit.exit (0 : Nat))
  [AV.dig [(1 : Nat), (2 : Nat), (3 : Nat)] a, AV.grown (48 : Nat) o, AV.num IntKind.i64 s, AV.num IntKind.i64 i,
  AV.bool l]) := by kernel_rfl
end Go.AI

namespace Go.Dy
theorem take_dg {l : List Nat} (h : digs l) : l.take (dg (val l)).length = dg (val l) := by
  have hle := length_dg_val h
  refine ext_val (digs_take h _) (digs_dg _) (by simp [hle]) ?_
  rw [val_dg, val_take h, Nat.mod_eq_of_lt]
  exact length_dg_le.1 (Nat.le_refl _)
theorem bl_half {x : Nat} (h : x ≠ 0) : bl x = bl (x / 2) + 1 := by
  have := bl_div_two_pow x 1
  have := bl_pos.2 h
  rw [Nat.pow_one] at *
  omega
theorem diffU_lt : ∀ {a b : List Nat}, a.length = b.length → a ≠ b → diffU a b < a.length ∧ a.getD (diffU a b) 0 ≠ b.getD (diffU a b) 0
  | [], [], _, h => absurd rfl h
  | [], _ :: _, h, _ => by simp at h
  | _ :: _, [], h, _ => by simp at h
  | x :: a, y :: b, h, hn => by
    unfold diffU
    by_cases e : x = y
    · rw [if_pos e]
      have := diffU_lt (a := a) (b := b) (by simpa using h) (fun h' => hn (by rw [e, h']))
      simpa using this
    · rw [if_neg e]
      simpa using e
theorem diffU_eq : ∀ {a b : List Nat} {i : Nat}, a.length = b.length → i < diffU a b → a.getD i 0 = b.getD i 0
  | [], b, i, _, h => by simp [diffU] at h
  | _ :: _, [], i, h, _ => by simp at h
  | x :: a, y :: b, i, hl, h => by
    unfold diffU at h
    by_cases e : x = y
    · rw [if_pos e] at h
      cases i with
      | zero => simpa using e
      | succ i => simpa using diffU_eq (a := a) (b := b) (by simpa using hl) (by omega)
    · rw [if_neg e] at h; omega
theorem tz_bit {v n : Nat} (h : v ≠ 0) (hn : n ≤ tz v) : v / 2 ^ n % 2 = if n = tz v then 1 else 0 := by
  by_cases e : n = tz v
  · rw [if_pos e, e]; exact div_tz_odd h
  · rw [if_neg e]
    obtain ⟨m, hm⟩ := tz_spec h
    have e1 : v / 2 ^ n = 2 * (2 ^ (tz v - n - 1) * (2 * m + 1)) := by
      conv => lhs; rw [hm]
      rw [show tz v = n + (1 + (tz v - n - 1)) by omega, Nat.pow_add, Nat.mul_assoc, Nat.mul_div_cancel_left _ (Nat.two_pow_pos _), Nat.pow_add, Nat.pow_one, Nat.mul_assoc]
      congr 3
      omega
    rw [e1]; omega
end Go.Dy
namespace Go.AI
open Go Go.RowKit Go.Proofs
set_option linter.unusedVariables false
set_option maxRecDepth 100000

theorem loop_ref_Trim : LoopOk Tryd.prog (look tab4) lamRTrim 1 21 keepRTrim (bodyN Tryd.f41 0) lsRTrim := by
  intro vals r h K hK
  unfold lsRTrim at h
  split at h
  · cases h
    rename_i l n
    simp only [evLR] at hK
    obtain ⟨⟨hl, rfl⟩, hK⟩ := hK
    have hl1 := hl.1
    have key : ∀ n : Nat, n ≤ l.length → Dy.val (l.take n) = Dy.val l → ∃ m, iterN Tryd.prog (look tab4) lamRTrim 1 21 keepRTrim (bodyN Tryd.f41 0) m [.dig [1, 2] l, .num .i64 n] K := by
      intro n
      induction n with
      | zero =>
        intro hn hv
        refine iterN_last ?_
        rw [vc_ref_Trim_1]
        refine cond_f rfl ?_
        have : Dy.val l = 0 := hv.symm
        rw [this, Dy.dg_zero] at hK
        exact hK
      | succ n ih =>
        intro hn hv
        have e0 : (((n + 1 : Nat) : Int) - 1) = (n : Int) := by omega
        by_cases c : l.getD n 0 = 0
        · obtain ⟨m, hm⟩ := ih (by omega) (by rw [← hv, Dy.val_take_succ (by omega), c]; simp)
          refine iterN_next m ?_
          rw [vc_ref_Trim_1, e0, wrap_i64 (by omega) (by omega), Int.toNat_natCast]
          exact cond_t (decide_eq_true (by omega)) ⟨by omega, cond_t (decide_eq_true (by omega)) hm⟩
        · refine iterN_last ?_
          rw [vc_ref_Trim_1, e0, wrap_i64 (by omega) (by omega), Int.toNat_natCast]
          refine cond_t (decide_eq_true (by omega)) ⟨by omega, cond_f (decide_eq_false (by omega)) ?_⟩
          have e1 : l.take (n + 1) = Dy.dg (Dy.val l) := by
            rw [← hv]
            refine ((Dy.can_iff (Dy.digs_take hl.2 _)).2 (.inr ?_)).symm
            rw [List.length_take, Nat.min_eq_left hn, Nat.add_sub_cancel, List.getD_eq_getElem?_getD, List.getElem?_take_of_lt (by omega), ← List.getD_eq_getElem?_getD]
            exact c
          rw [← e1, List.length_take, Nat.min_eq_left hn] at hK
          exact hK
    exact key l.length (Nat.le_refl _) (by rw [List.take_length])
  · cases h

theorem ok_ref_Trim (args : List AV) (s : Spec) (h : sTrim args = some s) (hp : andO s.pre True) : Contract Tryd.prog Inv 41 args s.res := by
  unfold sTrim at h
  split at h
  · cases h
    rename_i l
    refine contract_at true 21 lamRTrim ok_tab4 Tryd.func41 (by kernel_rfl) rfl (loops1 (by kernel_rfl) (by kernel_rfl) loop_ref_Trim) fun hok => ?_
    have h1 := (oks1_dig hok).1
    have := Dy.length_dg_val h1.2
    rw [vc_ref_Trim, Int.toNat_natCast, Dy.take_dg h1.2]
    exact ⟨⟨h1, rfl⟩, by omega, rfl⟩
  · cases h

theorem ok_ref_May (args : List AV) (s : Spec) (h : sMay args = some s) (hp : andO s.pre True) : Contract Tryd.prog Inv 20 args s.res := by
  unfold sMay at h
  split at h
  · cases h
    rename_i l
    refine contract0 false ok_tab4 Tryd.func20 (by kernel_rfl) (by kernel_rfl) fun hok => ?_
    have h0 := (oks1_dig hok).1
    have h1 := h0.1
    have h2 := h0.2
    rw [vc_ref_May]
    by_cases c1 : l.length ≤ 4096
    · refine cond_t (by simp; omega) ?_
      by_cases c2 : l = []
      · subst c2
        exact cond_t rfl (by simp [Dy.may, Dy.val, Dy.dg_zero])
      · have hl := List.length_pos_iff.2 c2
        refine cond_f (by simp; omega) ?_
        rw [wrap_i64 (by omega) (by omega), show ((l.length : Int) - 1).toNat = l.length - 1 by omega]
        refine ⟨by omega, ?_⟩
        have e : Dy.may l = !decide (((l.getD (l.length - 1) 0 : Nat) : Int) = 0) := by
          rw [Bool.eq_iff_iff, Dy.may_iff, Dy.can_iff h2]
          simp only [Bool.not_eq_true', decide_eq_false_iff_not]
          constructor
          · rintro ⟨_, h | h⟩
            · exact absurd h c2
            · omega
          · intro h; exact ⟨c1, .inr (by omega)⟩
        rw [e]
    · refine cond_f (by simp; omega) ?_
      have e : Dy.may l = false := by simp only [Dy.may, decide_eq_false_iff_not]; omega
      rw [e]
  · cases h

theorem ok_tab5 : PhiOk Tryd.prog Inv (look tab5) := look_cons (look_cons ok_tab4 ok_ref_May) ok_ref_Trim

theorem ok_ref_Of (args : List AV) (s : Spec) (h : sOf args = some s) (hp : andO s.pre True) : Contract Tryd.prog Inv 23 args s.res := by
  unfold sOf at h
  split at h
  · cases h
    rename_i n
    refine contract0 false ok_tab5 Tryd.func23 (by kernel_rfl) (by kernel_rfl) fun hok => ?_
    have hn := range_u64 (oks1_num hok).1
    rw [vc_ref_Of]
    rw [fdiv_pow hn.1]
    simp only [wrap_u32, Dy.val]
    congr 2
    omega
  · cases h

theorem loop_ref_Same : LoopOk Tryd.prog (look tab5) lamSame 2 26 keepSame (bodyN Tryd.f19 0) lsSame := by
  intro vals r h K hK
  unfold lsSame at h
  split at h
  · cases h
    rename_i a b r i
    simp only [evLR] at hK
    obtain ⟨⟨hl, rfl, ha⟩, hK⟩ := hK
    have ha1 := ha.1
    have key : ∀ u j : Nat, a.length = u + j → (a ≠ b → j ≤ Dy.diffU a b) → (∀ i, i < j → a.getD i 0 = b.getD i 0) → ∃ m, iterN Tryd.prog (look tab5) lamSame 2 26 keepSame (bodyN Tryd.f19 0) m [.dig [1, 2, 3] a, .dig [1, 2, 3] b, .bool r, .num .i64 j] K := by
      intro u
      induction u with
      | zero =>
        intro j hj hd he
        refine iterN_last ?_
        rw [vc_ref_Same_1]
        refine cond_f (decide_eq_false (by omega)) ?_
        have e : a = b := by
          refine List.ext_getElem hl fun i h1 h2 => ?_
          have := he i (by omega)
          simpa [List.getD_eq_getElem?_getD, h1, h2] using this
        rw [decide_eq_true e] at hK
        have : (j : Int) = (a.length : Int) := by omega
        rw [this]
        exact hK
      | succ u ih =>
        intro j hj hd he
        by_cases c : a.getD j 0 = b.getD j 0
        · obtain ⟨m, hm⟩ := ih (j + 1) (by omega) (fun hn => by
              have h1 := hd hn
              have h2 := (Dy.diffU_lt hl hn).2
              rcases Nat.lt_or_ge j (Dy.diffU a b) with h | h
              · exact h
              · have : j = Dy.diffU a b := by omega
                rw [this] at c
                exact absurd c h2) (fun i hi => by
              rcases Nat.lt_or_ge i j with h | h
              · exact he i h
              · have : i = j := by omega
                rw [this]; exact c)
          refine iterN_next m ?_
          rw [vc_ref_Same_1, wrap_i64 (by omega) (by omega), Int.toNat_natCast]
          exact cond_t (decide_eq_true (by omega)) ⟨by omega, by omega, cond_f (by rw [decide_eq_true (by omega)]; rfl) hm⟩
        · refine iterN_last ?_
          rw [vc_ref_Same_1, Int.toNat_natCast]
          refine cond_t (decide_eq_true (by omega)) ⟨by omega, by omega, cond_t (by rw [decide_eq_false (by omega)]; rfl) ?_⟩
          have hn : a ≠ b := fun e => c (by rw [e])
          have h1 := hd hn
          have h2 : ¬ j < Dy.diffU a b := fun h => c (Dy.diffU_eq hl h)
          have : j = Dy.diffU a b := by omega
          rw [decide_eq_false hn, ← this] at hK
          exact hK
    exact key a.length 0 (by omega) (fun _ => Nat.zero_le _) (fun i h => absurd h (Nat.not_lt_zero _))
  · cases h

theorem ok_ref_Same (args : List AV) (s : Spec) (h : sSame args = some s) (hp : andO s.pre True) : Contract Tryd.prog Inv 19 args s.res := by
  unfold sSame at h
  split at h
  · cases h
    rename_i a b
    refine contract_at false 26 lamSame ok_tab5 Tryd.func19 (by kernel_rfl) rfl (loops1 (by kernel_rfl) (by kernel_rfl) loop_ref_Same) fun hok => ?_
    have ha := (oks1_dig hok).1
    rw [vc_ref_Same]
    refine cond_i (fun h => ?_) (fun h => ⟨?_, cond_i (fun h' => ?_) (fun h' => ?_)⟩)
    · simp only [Bool.not_eq_true'] at h
      have h := of_decide_eq_false h
      have : a ≠ b := fun e => h (by rw [e])
      simp only [decide_eq_false this]
    · simp only [Bool.not_eq_false'] at h
      have h := of_decide_eq_true h
      exact ⟨by omega, rfl, ha⟩
    · rw [h']
    · rw [h']
  · cases h

theorem loop_ref_Len : LoopOk Tryd.prog (look tab5) lamRLen 1 25 keepRLen (bodyN Tryd.f21 0) lsRLen := by
  intro vals r h K hK
  unfold lsRLen at h
  split at h
  · cases h
    rename_i n x
    simp only [evLR] at hK
    obtain ⟨⟨h0, h1, h2, h3⟩, hK⟩ := hK
    obtain ⟨x, rfl⟩ := Int.eq_ofNat_of_zero_le h2
    rw [Int.toNat_natCast] at hK
    have key : ∀ (x : Nat) (n : Int), 0 ≤ n → n + Dy.bl x ≤ 1099511627776 + 32 → x < 4294967296 → K (.exit 0) [.num .i64 (n + (Dy.bl x : Nat)), .num .u32 0] →
        ∃ m, iterN Tryd.prog (look tab5) lamRLen 1 25 keepRLen (bodyN Tryd.f21 0) m [.num .i64 n, .num .u32 x] K := by
      intro x
      induction x using Nat.strongRecOn with
      | _ x ih =>
        intro n h0 h1 hx hK
        by_cases c : x = 0
        · subst c
          refine iterN_last ?_
          rw [vc_ref_Len_1]
          refine cond_f rfl ?_
          simpa [Dy.bl_zero] using hK
        · have hb := Dy.bl_half c
          obtain ⟨m, hm⟩ := ih (x / 2) (Nat.div_lt_self (by omega) (by omega)) (n + 1) (by omega) (by omega) (by omega) (by rw [show n + 1 + (Dy.bl (x / 2) : Int) = n + (Dy.bl x : Int) by omega]; exact hK)
          refine iterN_next m ?_
          rw [vc_ref_Len_1, wrap_i64 (by omega) (by omega), fdiv_pow (by omega), Int.toNat_natCast]
          exact cond_t (decide_eq_true (by omega)) hm
    have hb := (Dy.bl_le (n := x) (k := 32)).2 (by omega)
    exact key x n h0 (by omega) (by omega) hK
  · cases h

theorem ok_ref_Len (args : List AV) (s : Spec) (h : rLen args = some s) (hp : andO s.pre True) : Contract Tryd.prog Inv 21 args s.res := by
  unfold rLen at h
  split at h
  · cases h
    rename_i a
    obtain ⟨⟨hc, ha1⟩, -⟩ := hp
    refine contract_at false 25 lamRLen ok_tab5 Tryd.func21 (by kernel_rfl) rfl (loops1 (by kernel_rfl) (by kernel_rfl) loop_ref_Len) fun hok => ?_
    have ha := (oks1_dig hok).1
    rw [vc_ref_Len]
    refine cond_i (fun h => ?_) (fun h => ?_)
    · have h := of_decide_eq_true h
      have : a = [] := List.length_eq_zero_iff.1 (by omega)
      subst this
      rfl
    · have h := of_decide_eq_false h
      have hne : a ≠ [] := fun e => h (by rw [e]; rfl)
      have hb := Dy.bl_digits ha.2 hne (((Dy.can_iff ha.2).1 hc).resolve_left hne)
      have hx := Dy.digs_getD ha.2 (a.length - 1)
      rw [wrap_i64 (n := (a.length : Int) - 1) (by omega) (by omega), show ((a.length : Int) - 1).toNat = a.length - 1 by omega, Int.toNat_natCast, wrap_i64 (by omega) (by omega), hb]
      refine ⟨by omega, by omega, ?_⟩
      congr 1
      omega
  · cases h

theorem ok_ref_Bit (args : List AV) (s : Spec) (h : rBit args = some s) (hp : andO s.pre True) : Contract Tryd.prog Inv 60 args s.res := by
  unfold rBit at h
  split at h
  · cases h
    rename_i a i
    refine contract0 false ok_tab5 Tryd.func60 (by kernel_rfl) (by kernel_rfl) fun hok => ?_
    have ha := (oks1_dig hok).1
    have hr := range_i64 (oks1_num (oks1_dig hok).2).1
    rw [vc_ref_Bit]
    refine cond_i (fun h => ?_) (fun h => ?_)
    · have h := of_decide_eq_true h
      rw [if_pos h]
      rfl
    · have h := of_decide_eq_false h
      rw [if_neg h]
      obtain ⟨n, rfl⟩ := Int.eq_ofNat_of_zero_le (show 0 ≤ i by omega)
      have e1 : IntKind.i64.wrap ((n : Int).tdiv 32) = ((n / 32 : Nat) : Int) := by
        rw [Int.tdiv_eq_ediv_of_nonneg (by omega), wrap_i64 (by omega) (by omega)]; omega
      have e2 : (n : Int).tmod 32 = ((n % 32 : Nat) : Int) := by rw [Int.tmod_eq_emod_of_nonneg (by omega)]; omega
      rw [e1, e2]
      simp only [Int.toNat_natCast]
      have hsp : 2 ^ n = 2 ^ (32 * (n / 32)) * 2 ^ (n % 32) := by rw [← Nat.pow_add, show 32 * (n / 32) + n % 32 = n by omega]
      refine cond_i (fun h => ?_) (fun h => ?_)
      · have h := of_decide_eq_true h
        have : Dy.val a / 2 ^ n = 0 := Nat.div_eq_of_lt (Nat.lt_of_lt_of_le (Dy.val_lt ha.2) (Nat.pow_le_pow_right (by decide) (by omega)))
        rw [this]
        rfl
      · have h := of_decide_eq_false h
        refine ⟨by omega, by omega, ?_⟩
        have hx := Dy.digs_getD ha.2 (n / 32)
        have hdiv : Dy.val a / 2 ^ n % 2 = a.getD (n / 32) 0 / 2 ^ (n % 32) % 2 := by
          rw [hsp, ← Nat.div_div_eq_div_mul, ← Dy.val_drop ha.2, Dy.val_drop_step]
          have e3 : 4294967296 * Dy.val (a.drop (n / 32 + 1)) = 2 ^ (n % 32) * (2 * (2 ^ (31 - n % 32) * Dy.val (a.drop (n / 32 + 1)))) := by
            rw [← Nat.mul_assoc 2, ← Nat.pow_succ', ← Nat.mul_assoc, ← Nat.pow_add, show n % 32 + (31 - n % 32 + 1) = 32 by omega]
          rw [e3, Nat.add_mul_div_left _ _ (Nat.two_pow_pos _)]
          omega
        have hq : a.getD (n / 32) 0 / 2 ^ (n % 32) ≤ a.getD (n / 32) 0 := Nat.div_le_self _ _
        rw [hdiv, Nat.min_eq_left (by omega), fdiv_pow (by omega), Int.toNat_natCast]
        generalize a.getD (n / 32) 0 / 2 ^ (n % 32) = w at hq ⊢
        rw [w32_and (by omega) (by omega) (by omega) (by omega), Int.toNat_natCast, show (1 : Int).toNat = 1 from rfl, Nat.and_one_is_mod]
  · cases h

theorem ok_tab6 : PhiOk Tryd.prog Inv (look tab6) :=
  look_cons (look_cons (look_cons (look_cons (ok_tab5) ok_ref_Bit) ok_ref_Len) ok_ref_Same) ok_ref_Of

theorem loop_ref_Low : LoopOk Tryd.prog (look tab6) lamRLow 1 31 keepRLow (bodyN Tryd.f39 0) lsRLow := by
  intro vals r h K hK
  unfold lsRLow at h
  split at h
  · cases h
    rename_i a n
    simp only [evLR] at hK
    obtain ⟨⟨ha, hc, ha1, rfl⟩, hK⟩ := hK
    by_cases hv : Dy.val a = 0
    · have : a = [] := by rw [← hc, hv, Dy.dg_zero]
      subst this
      refine iterN_last ?_
      rw [vc_ref_Low_1, wrap_i64 (by simp) (by simp)]
      refine cond_f rfl ?_
      rw [hv, Dy.tz_zero] at hK
      exact hK
    · have hlt : Dy.tz (Dy.val a) < 32 * a.length := Nat.lt_of_lt_of_le (Dy.tz_lt_bl hv) (Dy.bl_le.2 (Dy.val_lt ha.2))
      have key : ∀ u n : Nat, Dy.tz (Dy.val a) = u + n → (n % 32 = 0 ∨ a.getD (n / 32) 0 ≠ 0) → ∃ m, iterN Tryd.prog (look tab6) lamRLow 1 31 keepRLow (bodyN Tryd.f39 0) m [.dig [1, 2] a, .num .i64 n] K := by
        intro u
        induction u using Nat.strongRecOn with
        | _ u ih =>
          intro n hn hd
          have hbit := Dy.tz_bit hv (show n ≤ Dy.tz (Dy.val a) by omega)
          have e1 : IntKind.i64.wrap ((n : Int).tdiv 32) = ((n / 32 : Nat) : Int) := by
            rw [Int.tdiv_eq_ediv_of_nonneg (by omega), wrap_i64 (by omega) (by omega)]; omega
          have e2 : IntKind.i64.wrap (32 * (a.length : Int)) = ((32 * a.length : Nat) : Int) := by rw [wrap_i64 (by omega) (by omega)]; omega
          have e3 : (if (n : Int) < 0 then (0 : Nat) else Dy.val a / 2 ^ (n : Int).toNat % 2) = if n = Dy.tz (Dy.val a) then 1 else 0 := by rw [if_neg (by omega), Int.toNat_natCast, hbit]
          by_cases c : n = Dy.tz (Dy.val a)
          · refine iterN_last ?_
            rw [vc_ref_Low_1, e1, e2, e3, if_pos c]
            refine cond_t (decide_eq_true (by omega)) (cond_f rfl ?_)
            rw [← c] at hK
            exact hK
          · by_cases c2 : a.getD (n / 32) 0 = 0
            · have h32 : n % 32 = 0 := hd.resolve_right (fun h => h c2)
              have hge : n + 32 ≤ Dy.tz (Dy.val a) := by
                refine (Dy.dvd_iff_le_tz hv _).1 ?_
                have q1 : Dy.val a % 2 ^ n = 0 := (Dy.dvd_iff_le_tz hv _).2 (by omega)
                have q2 := Dy.getD_val ha.2 (n / 32)
                rw [show 32 * (n / 32) = n by omega, c2] at q2
                rw [Nat.pow_add, Nat.mod_mul, q1, ← q2]
                simp
              obtain ⟨m, hm⟩ := ih (u - 32) (by omega) (n + 32) (by omega) (.inl (by omega))
              refine iterN_next m ?_
              rw [vc_ref_Low_1, e1, e2, e3, if_neg c]
              refine cond_t (decide_eq_true (by omega)) (cond_t rfl ⟨by omega, ?_⟩)
              rw [Int.toNat_natCast, c2, wrap_i64 (by omega) (by omega)]
              exact cond_t rfl hm
            · have hnext : (n + 1) % 32 = 0 ∨ a.getD ((n + 1) / 32) 0 ≠ 0 := by
                by_cases e : (n + 1) % 32 = 0
                · exact .inl e
                · rw [show (n + 1) / 32 = n / 32 by omega]; exact .inr c2
              obtain ⟨m, hm⟩ := ih (u - 1) (by omega) (n + 1) (by omega) hnext
              refine iterN_next m ?_
              rw [vc_ref_Low_1, e1, e2, e3, if_neg c]
              refine cond_t (decide_eq_true (by omega)) (cond_t rfl ⟨by omega, ?_⟩)
              rw [Int.toNat_natCast, wrap_i64 (n := (n : Int) + 1) (by omega) (by omega)]
              exact cond_f (decide_eq_false (by omega)) hm
      exact key (Dy.tz (Dy.val a)) 0 (by omega) (.inl rfl)
  · cases h

theorem ok_ref_Low (args : List AV) (s : Spec) (h : rLow args = some s) (hp : andO s.pre True) : Contract Tryd.prog Inv 39 args s.res := by
  unfold rLow at h
  split at h
  · cases h
    rename_i a
    obtain ⟨⟨hc, ha1⟩, -⟩ := hp
    refine contract_at false 31 lamRLow ok_tab6 Tryd.func39 (by kernel_rfl) rfl (loops1 (by kernel_rfl) (by kernel_rfl) loop_ref_Low) fun hok => ?_
    have ha := (oks1_dig hok).1
    rw [vc_ref_Low, wrap_i64 (by omega) (by omega)]
    refine ⟨⟨ha, hc, ha1, rfl⟩, cond_i (fun h => ?_) (fun h => rfl)⟩
    have h := of_decide_eq_true h
    by_cases hv : Dy.val a = 0
    · rw [hv, Dy.tz_zero]; rfl
    · have hlt : Dy.tz (Dy.val a) < 32 * a.length := Nat.lt_of_lt_of_le (Dy.tz_lt_bl hv) (Dy.bl_le.2 (Dy.val_lt ha.2))
      omega
  · cases h

theorem ok_tab7 : PhiOk Tryd.prog Inv (look tab7) := look_cons ok_tab6 ok_ref_Low

theorem loop_ref_Down : LoopOk Tryd.prog (look tab7) lamRDown 2 63 keepRDown (bodyN Tryd.f40 0) lsRDown := by
  intro vals r h K hK
  unfold lsRDown at h
  split at h
  · cases h
    rename_i a o s i l
    simp only [evLR] at hK
    obtain ⟨⟨ha, hs0, hs1, rfl, hi0, hi1, ha1⟩, hK⟩ := hK
    obtain ⟨s, rfl⟩ := Int.eq_ofNat_of_zero_le hs0
    obtain ⟨i, rfl⟩ := Int.eq_ofNat_of_zero_le hi0
    simp only [Int.toNat_natCast] at hK
    have hs : s < 32 := by omega
    have key : ∀ (u j : Nat), a.length = u + (i + j) →
        ∃ m, iterN Tryd.prog (look tab7) lamRDown 2 63 keepRDown (bodyN Tryd.f40 0) m [.dig [1, 2, 3] a, .grown 48 (Dy.dgN j (Dy.val (a.drop i) / 2 ^ s)), .num .i64 s, .num .i64 ((i + j : Nat) : Int), .bool l] K := by
      intro u
      induction u with
      | zero =>
        intro j hj
        refine iterN_last ?_
        rw [vc_ref_Down_1]
        refine cond_f (decide_eq_false (by omega)) ?_
        rw [show j = a.length - i by omega, show i + (a.length - i) = a.length by omega]
        exact hK
      | succ u ih =>
        intro j hj
        have hdig := down_digit (Dy.digs_drop ha.2 i) hs j
        rw [show ∀ k, (a.drop i).getD k 0 = a.getD (i + k) 0 from fun k => by simp [List.getD_eq_getElem?_getD, List.getElem?_drop], show ∀ k, (a.drop i).getD k 0 = a.getD (i + k) 0 from fun k => by simp [List.getD_eq_getElem?_getD, List.getElem?_drop]] at hdig
        have hx := Dy.digs_getD ha.2 (i + j)
        have hy := Dy.digs_getD ha.2 (i + (j + 1))
        have hd : Dy.val (a.drop i) / 2 ^ s / 2 ^ (32 * j) % 4294967296 < 4294967296 := Nat.mod_lt _ (by decide)
        obtain ⟨m, hm⟩ := ih (j + 1) (by omega)
        rw [Dy.dgN_succ] at hm
        refine iterN_next m ?_
        rw [vc_ref_Down_1]
        rw [hdig] at hm hd
        have hw : IntKind.i64.wrap (((i + j : Nat) : Int) + 1) = ((i + (j + 1) : Nat) : Int) := by rw [wrap_i64 (by omega) (by omega)]; omega
        rw [hw]
        simp only [Int.toNat_natCast, List.length_cons, List.length_nil, Dy.dgN_length]
        generalize hxx : a.getD (i + j) 0 = x at hx hm hd ⊢
        generalize hyy : a.getD (i + (j + 1)) 0 = y at hy hm hd ⊢
        have q1 : ∀ z : Nat, z < 4294967296 → IntKind.u64.wrap (z : Int) = (z : Int) := fun z hz => by rw [wrap_u64]; omega
        have hxs : x / 2 ^ s ≤ x := Nat.div_le_self _ _
        rw [q1 x hx, Nat.min_eq_left (by omega : s ≤ 64), fdiv_pow (by omega)]
        simp only [Int.toNat_natCast]
        have hlo : x / 2 ^ s < 2 ^ (32 - s) := by
          rw [Nat.div_lt_iff_lt_mul (Nat.two_pow_pos s), ← Nat.pow_add, show 32 - s + s = 32 by omega]; exact hx
        generalize x / 2 ^ s = w at hxs hlo hd hm ⊢
        refine cond_t (decide_eq_true (by omega)) ⟨by omega, by omega, cond_i (fun h => ?_) (fun h => ?_)⟩
        · have h := of_decide_eq_true h
          have e4 : IntKind.i64.wrap ((32 : Int) - (s : Int)) = ((32 - s : Nat) : Int) := by rw [wrap_i64 (by omega) (by omega)]; omega
          rw [e4]
          simp only [Int.toNat_natCast]
          rw [Nat.min_eq_left (by omega : 32 - s ≤ 64)]
          have hpow : ((2 : Int) ^ (32 - s)) = ((2 ^ (32 - s) : Nat) : Int) := by simp
          have hp32 : 2 ^ (32 - s) ≤ 2 ^ 32 := Nat.pow_le_pow_right (by decide) (by omega)
          have hy32 : y * 2 ^ (32 - s) ≤ 4294967295 * 2 ^ 32 := Nat.mul_le_mul (by omega) hp32
          have e5 : IntKind.u64.wrap (IntKind.u64.wrap (y : Int) * 2 ^ (32 - s)) = ((y * 2 ^ (32 - s) : Nat) : Int) := by
            rw [hpow, q1 y hy, ← Int.natCast_mul, wrap_u64]
            generalize y * 2 ^ (32 - s) = v at hy32 ⊢
            omega
          rw [e5, w64_or (by omega) (by omega) (by omega) (by omega)]
          simp only [Int.toNat_natCast]
          have e7 : w ||| y * 2 ^ (32 - s) = y * 2 ^ (32 - s) + w := by rw [Nat.or_comm, or_low hlo]
          have e8 : (IntKind.u32.wrap ((y * 2 ^ (32 - s) + w : Nat) : Int)).toNat = w + y * 2 ^ (32 - s) % 4294967296 := by
            rw [wrap_u32]
            generalize y * 2 ^ (32 - s) = v at hy32 hd ⊢
            omega
          rw [e7, e8]
          exact ⟨by omega, by omega, ⟨by omega, by omega⟩, hm⟩
        · have h := of_decide_eq_false h
          have hb0 : y = 0 := by rw [← hyy, List.getD_eq_getElem?_getD, List.getElem?_eq_none (by omega)]; rfl
          subst hb0
          have e8 : (IntKind.u32.wrap (w : Int)).toNat = w := by
            rw [wrap_u32]
            omega
          rw [Nat.zero_mul, Nat.zero_mod, Nat.add_zero] at hm
          rw [e8]
          exact ⟨⟨by omega, by omega⟩, hm⟩
    exact key (a.length - i) 0 (by omega)
  · cases h

theorem ok_ref_Down (args : List AV) (s : Spec) (h : rDown args = some s) (hp : andO s.pre True) : Contract Tryd.prog Inv 40 args s.res := by
  unfold rDown at h
  split at h
  · cases h
    rename_i a n
    obtain ⟨⟨hc, hn, ha1⟩, -⟩ := hp
    refine contract_at false 63 lamRDown ok_tab7 Tryd.func40 (by kernel_rfl) rfl (loops1 (by kernel_rfl) (by kernel_rfl) loop_ref_Down) fun hok => ?_
    have ha := (oks1_dig hok).1
    have hr := range_i64 (oks1_num (oks1_dig hok).2).1
    obtain ⟨n, rfl⟩ := Int.eq_ofNat_of_zero_le hn
    rw [vc_ref_Down]
    have e1 : IntKind.i64.wrap ((n : Int).tdiv 32) = ((n / 32 : Nat) : Int) := by
      rw [Int.tdiv_eq_ediv_of_nonneg (by omega), wrap_i64 (by omega) (by omega)]; omega
    have e2 : (n : Int).tmod 32 = ((n % 32 : Nat) : Int) := by rw [Int.tmod_eq_emod_of_nonneg (by omega)]; omega
    rw [e1, e2]
    simp only [Int.toNat_natCast]
    have hpow : 2 ^ (32 * (n / 32)) * 2 ^ (n % 32) = 2 ^ n := by rw [← Nat.pow_add, show 32 * (n / 32) + n % 32 = n by omega]
    have hbl := (Dy.bl_le (n := Dy.val a) (k := 32 * a.length)).2 (Dy.val_lt ha.2)
    refine ⟨⟨hc, ha1⟩, cond_i (fun h => ?_) (fun h => ?_)⟩
    · have h := of_decide_eq_true h
      have h0 : Dy.val a / 2 ^ n = 0 := Nat.div_eq_of_lt (Dy.bl_le.1 (by omega))
      rw [h0, Dy.dg_zero]
      have e3 : decide ((a.length : Int) > 0) = decide (Dy.val a ≠ 0 ∧ (Dy.tz (Dy.val a) : Int) < (n : Int)) := by
        by_cases hv : Dy.val a = 0
        · have : a = [] := by rw [← hc, hv, Dy.dg_zero]
          subst this
          simp [Dy.val]
        · have hz := Dy.tz_lt_bl hv
          have hl : a ≠ [] := fun e => hv (by rw [e]; rfl)
          have hl := List.length_pos_iff.2 hl
          rw [decide_eq_true (by omega), decide_eq_true ⟨hv, by omega⟩]
      rw [e3]
    · have h := of_decide_eq_false h
      have hv : Dy.val a ≠ 0 := fun e => h (by rw [e, Dy.bl_zero]; omega)
      refine ⟨⟨hc, ha1⟩, ⟨ha, by omega, by omega, by simp, by omega, by omega, ha1⟩, ?_⟩
      have hlt : Dy.val (a.drop (n / 32)) / 2 ^ (n % 32) < 2 ^ (32 * (a.length - n / 32)) := by
        have := Dy.val_lt (Dy.digs_drop ha.2 (n / 32))
        rw [List.length_drop] at this
        exact Nat.lt_of_le_of_lt (Nat.div_le_self _ _) this
      rw [Dy.dg_val_dgN hlt, Dy.val_drop ha.2, Nat.div_div_eq_div_mul, hpow]
      have e3 : decide ((n : Int) > (Dy.tz (Dy.val a) : Int)) = decide (Dy.val a ≠ 0 ∧ (Dy.tz (Dy.val a) : Int) < (n : Int)) := by simp [hv]
      rw [e3]
  · cases h

theorem ok_tab8 : PhiOk Tryd.prog Inv (look tab8) := look_cons ok_tab7 ok_ref_Down

end Go.AI

namespace Go.Dy
structure Dyd where
  neg : Bool
  mag : List Nat
  exp : Int
def zeroD : Dyd := ⟨false, [], 0⟩
/-- a number in its one form -/
def form (s : Bool) (n : Nat) (e : Int) : Dyd := if n = 0 then zeroD else ⟨s, dg (n / 2 ^ tz n), e + tz n⟩
def formZ (z : Int) (e : Int) : Dyd := form (decide (z < 0)) z.natAbs e
/-- its whole part in the unit of its lowest bit -/
def Dyd.int (d : Dyd) : Int := if d.neg then -(val d.mag : Int) else val d.mag
def inside (e : Int) : Bool := decide (-16777216 ≤ e ∧ e ≤ 16777216)
def mayD (d : Dyd) : Bool := may d.mag && (if d.mag = [] then !d.neg && decide (d.exp = 0) else decide (val d.mag % 2 = 1) && inside d.exp)
/-- a number that was asked for, or why there is none -/
def boundD (d : Dyd) : Dyd × Int := if d.mag.length ≤ 4096 then (if inside d.exp then (d, 0) else (zeroD, 20)) else (zeroD, 3)
def makeD (s : Bool) (m : List Nat) (e : Int) : Dyd × Int := if may m then boundD (form s (val m) e) else (zeroD, 2)
/-- two numbers in a common unit -/
def unit (a b : Dyd) : Int := min a.exp b.exp
def at_ (d : Dyd) (u : Int) : Int := d.int * 2 ^ (d.exp - u).toNat
def addD (a b : Dyd) : Dyd := formZ (at_ a (unit a b) + at_ b (unit a b)) (unit a b)
def mulD (a b : Dyd) : Dyd := form (a.neg != b.neg) (val a.mag * val b.mag) (a.exp + b.exp)
def cmpZ (a b : Int) : Int := if a < b then -1 else if b < a then 1 else 0
def cmpD (a b : Dyd) : Int := cmpZ (at_ a (unit a b)) (at_ b (unit a b))
def negD (d : Dyd) : Dyd := ⟨!d.neg && decide (d.mag ≠ []), d.mag, d.exp⟩
def absD (d : Dyd) : Dyd := ⟨false, d.mag, d.exp⟩
def signD (d : Dyd) : Int := if d.mag = [] then 0 else if d.neg then -1 else 1
def topD (d : Dyd) : Int := if d.mag = [] then 0 else d.exp + bl (val d.mag)
def okIf (c : Bool) (d : Dyd) : Dyd × Int := if c then (d, 0) else (zeroD, 2)
def boundIf (c : Bool) (d : Dyd) : Dyd × Int := if c then boundD d else (zeroD, 2)
def intD (n : Int) : Dyd := formZ n 0
/-- a whole number's value, if it has one among the words -/
def int64D (d : Dyd) : Int × Bool :=
  if mayD d && decide (0 ≤ d.exp) && decide (topD d ≤ 64) && decide (-9223372036854775808 ≤ at_ d 0 ∧ at_ d 0 < 9223372036854775808) then (at_ d 0, true) else (0, false)
end Go.Dy
namespace Go.AI
open Go Go.RowKit Go.Proofs
set_option linter.unusedVariables false
def avD (p : List Nat) (d : Dy.Dyd) : AV := .agg [.bool d.neg, .dig p d.mag, .num .i64 d.exp]
def dInside : List AV → Option Spec
  | [.num .i64 e] => some ⟨none, .bool (Dy.inside e)⟩
  | _ => none
def dMay : List AV → Option Spec
  | [.agg [.bool s, .dig [1] m, .num .i64 e]] => some ⟨none, .bool (Dy.mayD ⟨s, m, e⟩)⟩
  | _ => none
def dBoth : List AV → Option Spec
  | [.vec [1] 3 [.agg [.bool s, .dig [1] m, .num .i64 e], .agg [.bool s', .dig [1] m', .num .i64 e']]] => some ⟨none, .bool (Dy.mayD ⟨s, m, e⟩ && Dy.mayD ⟨s', m', e'⟩)⟩
  | _ => none
def dMake : List AV → Option Spec
  | [.bool s, .dig [2] m, .num .i64 e] => some ⟨none, .tup [avD [0] (Dy.makeD s m e).1, .num .i64 (Dy.makeD s m e).2]⟩
  | _ => none
def dOwn : List AV → Option Spec
  | [.agg [.bool s, .dig [1] m, .num .i64 e]] => some ⟨some (m.length ≤ 1048576), .agg [.bool s, .dig [0] m, .num .i64 e]⟩
  | _ => none
def dSigned : List AV → Option Spec
  | [.agg [.bool s, .dig [1] m, .num .i64 e], .bool n] => some ⟨some (m.length ≤ 1048576), .agg [.bool (n && decide (m ≠ [])), .dig [0] m, .num .i64 e]⟩
  | _ => none
def dSign : List AV → Option Spec
  | [.agg [.bool s, .dig [1] m, .num .i64 e]] => some ⟨none, .num .i64 (if Dy.mayD ⟨s, m, e⟩ then Dy.signD ⟨s, m, e⟩ else 0)⟩
  | _ => none
def dTop : List AV → Option Spec
  | [.agg [.bool s, .dig [1] m, .num .i64 e]] => some ⟨none, .num .i64 (if Dy.mayD ⟨s, m, e⟩ then Dy.topD ⟨s, m, e⟩ else 0)⟩
  | _ => none
def dInt : List AV → Option Spec
  | [.num .i64 n] => some ⟨none, avD [0] (Dy.intD n)⟩
  | _ => none
def dInt64 : List AV → Option Spec
  | [.agg [.bool s, .dig [1] m, .num .i64 e]] => some ⟨none, .tup [.num .i64 (Dy.int64D ⟨s, m, e⟩).1, .bool (Dy.int64D ⟨s, m, e⟩).2]⟩
  | _ => none
def dNeg : List AV → Option Spec
  | [.agg [.bool s, .dig [1] m, .num .i64 e]] => some ⟨none, .tup [avD [0] (Dy.okIf (Dy.mayD ⟨s, m, e⟩) (Dy.negD ⟨s, m, e⟩)).1, .num .i64 (Dy.okIf (Dy.mayD ⟨s, m, e⟩) (Dy.negD ⟨s, m, e⟩)).2]⟩
  | _ => none
def dAbs : List AV → Option Spec
  | [.agg [.bool s, .dig [1] m, .num .i64 e]] => some ⟨none, .tup [avD [0] (Dy.okIf (Dy.mayD ⟨s, m, e⟩) (Dy.absD ⟨s, m, e⟩)).1, .num .i64 (Dy.okIf (Dy.mayD ⟨s, m, e⟩) (Dy.absD ⟨s, m, e⟩)).2]⟩
  | _ => none
def dSizes : List AV → Option Spec
  | [.agg [.bool s, .dig [1] m, .num .i64 e], .agg [.bool s', .dig [2] m', .num .i64 e']] =>
    some ⟨some (Dy.mayD ⟨s, m, e⟩ = true ∧ Dy.mayD ⟨s', m', e'⟩ = true ∧ (m = [] ↔ m' = [])), .num .i64 (Dy.cmpZ (Dy.val m * 2 ^ (e - min e e').toNat : Nat) (Dy.val m' * 2 ^ (e' - min e e').toNat : Nat))⟩
  | _ => none
def dCmp : List AV → Option Spec
  | [.agg [.bool s, .dig [1] m, .num .i64 e], .agg [.bool s', .dig [2] m', .num .i64 e']] =>
    some ⟨none, .tup [.num .i64 (if Dy.mayD ⟨s, m, e⟩ && Dy.mayD ⟨s', m', e'⟩ then Dy.cmpD ⟨s, m, e⟩ ⟨s', m', e'⟩ else 0), .num .i64 (if Dy.mayD ⟨s, m, e⟩ && Dy.mayD ⟨s', m', e'⟩ then 0 else 2)]⟩
  | _ => none
def dJoin : List AV → Option Spec
  | [.bool p, .dig [2] x, .bool q, .dig [4] y, .num .i64 e] => some ⟨some (Dy.may x = true ∧ Dy.may y = true ∧ x ≠ [] ∧ y ≠ [] ∧ Dy.inside e = true),
      .tup [avD [0] (Dy.boundD (Dy.formZ (Dy.Dyd.int ⟨p, x, 0⟩ + Dy.Dyd.int ⟨q, y, 0⟩) e)).1, .num .i64 (Dy.boundD (Dy.formZ (Dy.Dyd.int ⟨p, x, 0⟩ + Dy.Dyd.int ⟨q, y, 0⟩) e)).2]⟩
  | _ => none
def dHalved : List AV → Option Spec
  | [.bool p, .dig [2] x, .dig [3] y, .num .i64 e] => some ⟨some (Dy.may x = true ∧ Dy.may y = true ∧ Dy.inside e = true ∧ 4096 < (Dy.dg (Dy.val x + Dy.val y)).length),
      .tup [avD [0] (Dy.boundD (Dy.form p (Dy.val x + Dy.val y) e)).1, .num .i64 (Dy.boundD (Dy.form p (Dy.val x + Dy.val y) e)).2]⟩
  | _ => none
def dEdge : List AV → Option Spec
  | [.agg [.bool s, .dig [1] m, .num .i64 e], .agg [.bool s', .dig [2] m', .num .i64 e'], .num .i64 g] =>
    some ⟨some (Dy.mayD ⟨s, m, e⟩ = true ∧ Dy.mayD ⟨s', m', e'⟩ = true ∧ m ≠ [] ∧ m' ≠ [] ∧ g = e - e' ∧ 1 ≤ g ∧ g + Dy.bl (Dy.val m) = 131073),
      .tup [avD [0] (Dy.boundD (Dy.addD ⟨s, m, e⟩ ⟨s', m', e'⟩)).1, .num .i64 (Dy.boundD (Dy.addD ⟨s, m, e⟩ ⟨s', m', e'⟩)).2]⟩
  | _ => none
def dAddL : List AV → Option Spec
  | [.agg [.bool s, .dig [1] m, .num .i64 e], .agg [.bool s', .dig [2] m', .num .i64 e']] =>
    some ⟨some (Dy.mayD ⟨s, m, e⟩ = true ∧ Dy.mayD ⟨s', m', e'⟩ = true), .tup [avD [0] (Dy.boundD (Dy.addD ⟨s, m, e⟩ ⟨s', m', e'⟩)).1, .num .i64 (Dy.boundD (Dy.addD ⟨s, m, e⟩ ⟨s', m', e'⟩)).2]⟩
  | _ => none
def dAdd : List AV → Option Spec
  | [.agg [.bool s, .dig [1] m, .num .i64 e], .agg [.bool s', .dig [2] m', .num .i64 e']] =>
    some ⟨none, .tup [avD [0] (Dy.boundIf (Dy.mayD ⟨s, m, e⟩ && Dy.mayD ⟨s', m', e'⟩) (Dy.addD ⟨s, m, e⟩ ⟨s', m', e'⟩)).1, .num .i64 (Dy.boundIf (Dy.mayD ⟨s, m, e⟩ && Dy.mayD ⟨s', m', e'⟩) (Dy.addD ⟨s, m, e⟩ ⟨s', m', e'⟩)).2]⟩
  | _ => none
def dSub : List AV → Option Spec
  | [.agg [.bool s, .dig [1] m, .num .i64 e], .agg [.bool s', .dig [2] m', .num .i64 e']] =>
    some ⟨none, .tup [avD [0] (Dy.boundIf (Dy.mayD ⟨s, m, e⟩ && Dy.mayD ⟨s', m', e'⟩) (Dy.addD ⟨s, m, e⟩ (Dy.negD ⟨s', m', e'⟩))).1,
      .num .i64 (Dy.boundIf (Dy.mayD ⟨s, m, e⟩ && Dy.mayD ⟨s', m', e'⟩) (Dy.addD ⟨s, m, e⟩ (Dy.negD ⟨s', m', e'⟩))).2]⟩
  | _ => none
def dMul : List AV → Option Spec
  | [.agg [.bool s, .dig [1] m, .num .i64 e], .agg [.bool s', .dig [2] m', .num .i64 e']] =>
    some ⟨none, .tup [avD [0] (Dy.boundIf (Dy.mayD ⟨s, m, e⟩ && Dy.mayD ⟨s', m', e'⟩) (Dy.mulD ⟨s, m, e⟩ ⟨s', m', e'⟩)).1, .num .i64 (Dy.boundIf (Dy.mayD ⟨s, m, e⟩ && Dy.mayD ⟨s', m', e'⟩) (Dy.mulD ⟨s, m, e⟩ ⟨s', m', e'⟩)).2]⟩
  | _ => none
def tab9 : List (Nat × (List AV → Option Spec)) := (25, dInside) :: tab8
def tab10 : List (Nat × (List AV → Option Spec)) := (43, dOwn) :: (13, dMay) :: tab9
def tab11 : List (Nat × (List AV → Option Spec)) := (58, dBoth) :: (45, dMake) :: (84, dSigned) :: (15, dSign) :: (14, dTop) :: tab10
def tab12 : List (Nat × (List AV → Option Spec)) := (71, dNeg) :: (59, dSizes) :: (95, dHalved) :: (92, dEdge) :: (73, dMul) :: tab11
def tab13 : List (Nat × (List AV → Option Spec)) := (38, dCmp) :: (93, dJoin) :: tab12
def tab14 : List (Nat × (List AV → Option Spec)) := (83, dAddL) :: tab13
def tab15 : List (Nat × (List AV → Option Spec)) := (70, dAdd) :: (68, dSub) :: tab14
end Go.AI

namespace Go.Dy
set_option maxRecDepth 100000
def sgn (s : Bool) (n : Nat) : Int := if s then -(n : Int) else n
theorem Dyd.int_eq (d : Dyd) : d.int = sgn d.neg (val d.mag) := rfl
theorem int_mk (s : Bool) (m : List Nat) (e : Int) : Dyd.int ⟨s, m, e⟩ = sgn s (val m) := rfl
theorem may_dgn {n : Nat} : may (dg n) = true ↔ (dg n).length ≤ 4096 := by
  rw [may_iff, val_dg]; exact ⟨fun h => h.1, fun h => ⟨h, rfl⟩⟩
theorem mayD_iff {s : Bool} {m : List Nat} {e : Int} : mayD ⟨s, m, e⟩ = true ↔ may m = true ∧ ((m = [] ∧ s = false ∧ e = 0) ∨ (m ≠ [] ∧ val m % 2 = 1 ∧ inside e = true)) := by
  unfold mayD
  simp only [Bool.and_eq_true]
  by_cases h : m = []
  · simp [h]
  · simp [h]
theorem inside_iff {e : Int} : inside e = true ↔ -16777216 ≤ e ∧ e ≤ 16777216 := by simp [inside]
theorem mayD_may {s : Bool} {m : List Nat} {e : Int} (h : mayD ⟨s, m, e⟩ = true) : may m = true := (mayD_iff.1 h).1
theorem mayD_exp {s : Bool} {m : List Nat} {e : Int} (h : mayD ⟨s, m, e⟩ = true) : -16777216 ≤ e ∧ e ≤ 16777216 := by
  rcases (mayD_iff.1 h).2 with ⟨_, _, h⟩ | ⟨_, _, h⟩
  · omega
  · exact inside_iff.1 h
theorem mayD_odd {s : Bool} {m : List Nat} {e : Int} (h : mayD ⟨s, m, e⟩ = true) (hm : m ≠ []) : val m % 2 = 1 := by
  rcases (mayD_iff.1 h).2 with ⟨h, _⟩ | ⟨_, h, _⟩
  · exact absurd h hm
  · exact h
theorem mayD_nil {s : Bool} {e : Int} (h : mayD ⟨s, [], e⟩ = true) : s = false ∧ e = 0 := by
  rcases (mayD_iff.1 h).2 with ⟨_, h⟩ | ⟨h, _⟩
  · exact h
  · exact absurd rfl h
theorem mayD_zero : mayD zeroD = true := by decide
theorem may_bl {m : List Nat} (h : may m = true) : bl (val m) ≤ 131072 := by
  have := (length_dg_bl (n := val m) (k := 4096)).1 (by rw [may_dg h]; exact may_len h)
  omega
theorem len_bl {n : Nat} : (dg n).length ≤ 4096 ↔ bl n ≤ 131072 := length_dg_bl (k := 4096)
theorem form_zero (s : Bool) (e : Int) : form s 0 e = zeroD := rfl
theorem form_pos {s : Bool} {n : Nat} {e : Int} (h : n ≠ 0) : form s n e = ⟨s, dg (n / 2 ^ tz n), e + tz n⟩ := by rw [form, if_neg h]
theorem form_odd {s : Bool} {n : Nat} {e : Int} (h : n % 2 = 1) : form s n e = ⟨s, dg n, e⟩ := by
  rw [form_pos (by omega), tz_odd h, Nat.pow_zero, Nat.div_one]
  simp
theorem form_mul (s : Bool) (n k : Nat) (e : Int) : form s (n * 2 ^ k) e = form s n (e + k) := by
  by_cases h : n = 0
  · rw [h, Nat.zero_mul, form_zero, form_zero]
  · have h2 : n * 2 ^ k ≠ 0 := Nat.mul_ne_zero h (Nat.pos_iff_ne_zero.1 (Nat.two_pow_pos k))
    rw [form_pos h2, form_pos h, tz_mul_two_pow h, Nat.pow_add, Nat.mul_div_mul_right _ _ (Nat.two_pow_pos k)]
    rw [show e + ((tz n + k : Nat) : Int) = e + (k : Int) + (tz n : Int) by omega]
theorem form_two (s : Bool) (n : Nat) (e : Int) : form s (2 * n) e = form s n (e + 1) := by
  have := form_mul s n 1 e
  rw [Nat.pow_one, Nat.mul_comm] at this
  exact this
theorem form_self {s : Bool} {m : List Nat} {e : Int} (h : mayD ⟨s, m, e⟩ = true) : form s (val m) e = ⟨s, m, e⟩ := by
  by_cases hm : m = []
  · subst hm
    obtain ⟨rfl, rfl⟩ := mayD_nil h
    rfl
  · rw [form_odd (mayD_odd h hm), may_dg (mayD_may h)]
theorem formZ_sgn (s : Bool) (n : Nat) (e : Int) : formZ (sgn s n) e = form s n e := by
  unfold formZ sgn
  by_cases h : n = 0
  · subst h
    cases s <;> rfl
  · cases s
    · simp only [Bool.false_eq_true, if_false, Int.natAbs_natCast]
      rw [decide_eq_false (by omega)]
    · simp only [if_true, Int.natAbs_neg, Int.natAbs_natCast]
      rw [decide_eq_true (by omega)]
theorem formZ_zero (e : Int) : formZ 0 e = zeroD := rfl
theorem sgn_mul (s : Bool) (n k : Nat) : sgn s n * (k : Int) = sgn s (n * k) := by
  unfold sgn
  cases s
  · simp
  · simp only [if_true, Int.neg_mul, Int.natCast_mul]
theorem sgn_natAbs (z : Int) : z = sgn (decide (z < 0)) z.natAbs := by
  unfold sgn
  by_cases h : z < 0
  · simp only [h, decide_true, if_true]; omega
  · simp only [h, decide_false, Bool.false_eq_true, if_false]; omega
theorem formZ_mul (z : Int) (k : Nat) (e : Int) : formZ (z * 2 ^ k) e = formZ z (e + k) := by
  rw [sgn_natAbs z, show ((2 : Int) ^ k) = ((2 ^ k : Nat) : Int) by simp, sgn_mul, formZ_sgn, formZ_sgn, form_mul]
theorem formZ_self {s : Bool} {m : List Nat} {e : Int} (h : mayD ⟨s, m, e⟩ = true) : formZ (Dyd.int ⟨s, m, e⟩) e = ⟨s, m, e⟩ := by
  rw [int_mk, formZ_sgn, form_self h]
theorem boundD_self {d : Dyd} (h : mayD d = true) : boundD d = (d, 0) := by
  obtain ⟨s, m, e⟩ := d
  unfold boundD
  rw [if_pos (may_len (mayD_may h)), if_pos (by rw [inside_iff]; exact mayD_exp h)]
theorem at_mk (s : Bool) (m : List Nat) (e u : Int) : at_ ⟨s, m, e⟩ u = sgn s (val m * 2 ^ (e - u).toNat) := by
  unfold at_
  rw [int_mk]
  simp only
  rw [show ((2 : Int) ^ (e - u).toNat) = ((2 ^ (e - u).toNat : Nat) : Int) by simp, sgn_mul]
theorem unit_comm (a b : Dyd) : unit a b = unit b a := by unfold unit; omega
theorem addD_comm (a b : Dyd) : addD a b = addD b a := by
  unfold addD
  rw [unit_comm a b, Int.add_comm]
theorem addD_nil {a : Dyd} {s : Bool} {e : Int} (ha : mayD a = true) (h : mayD ⟨s, [], e⟩ = true) : addD a ⟨s, [], e⟩ = a := by
  obtain ⟨rfl, rfl⟩ := mayD_nil h
  obtain ⟨s, m, e⟩ := a
  unfold addD
  have h0 : at_ ⟨false, [], 0⟩ (unit ⟨s, m, e⟩ ⟨false, [], 0⟩) = 0 := by rw [at_mk]; simp [val, sgn]
  rw [h0, Int.add_zero]
  unfold at_
  rw [formZ_mul]
  simp only [unit]
  rw [show (min e 0 + ((e - min e 0).toNat : Int)) = e by omega]
  exact formZ_self ha
/-- the higher one brought down to the lower one's unit -/
theorem addD_gap {s s' : Bool} {m m' : List Nat} {e e' : Int} (h : e' ≤ e) : addD ⟨s, m, e⟩ ⟨s', m', e'⟩ = formZ (sgn s (val m * 2 ^ (e - e').toNat) + sgn s' (val m')) e' := by
  unfold addD
  rw [at_mk, at_mk]
  simp only [unit]
  rw [show min e e' = e' by omega, show (e' - e').toNat = 0 by omega, Nat.pow_zero, Nat.mul_one]
theorem boundD_long {s : Bool} {n : Nat} {e : Int} (ho : n % 2 = 1) (h : 131072 < bl n) : boundD (form s n e) = (zeroD, 3) := by
  rw [form_odd ho, boundD, if_neg]
  intro c
  have := len_bl.1 c
  omega
theorem makeD_dg {s : Bool} {n : Nat} {e : Int} (h : bl n ≤ 131072) : makeD s (dg n) e = boundD (form s n e) := by
  unfold makeD
  rw [if_pos (may_dgn.2 (len_bl.2 h)), val_dg]
theorem addR_dg {a b : List Nat} (ha : may a = true) (hb : may b = true) : addR a b = (if bl (val a + val b) ≤ 131072 then dg (val a + val b) else [], if bl (val a + val b) ≤ 131072 then 0 else 3) := by
  unfold addR
  rw [ha, hb, Bool.and_self, bound_eq]
  simp only [len_bl]
theorem mulR_dg {a b : List Nat} (ha : may a = true) (hb : may b = true) : mulR a b = (if bl (val a * val b) ≤ 131072 then dg (val a * val b) else [], if bl (val a * val b) ≤ 131072 then 0 else 3) := by
  unfold mulR
  rw [ha, hb, Bool.and_self, bound_eq]
  simp only [len_bl]
theorem subR_dg {a b : List Nat} (ha : may a = true) (hb : may b = true) : subR a b = (if val a < val b then ([], 10) else (dg (val a - val b), 0)) := by
  unfold subR subN
  rw [ha, hb]
  rfl
theorem shiftN_neg {a : List Nat} (h : may a = true) (n : Nat) : (shiftN a (-(n : Int))).mag = dg (val a / 2 ^ n) := by
  unfold shiftN
  rw [if_pos h]
  by_cases c : val a = 0
  · rw [if_pos c, c, Nat.zero_div, dg_zero]
  · rw [if_neg c]
    by_cases c1 : -(n : Int) < 0
    · rw [if_pos c1, show (- -(n : Int)).toNat = n by omega]
    · have : n = 0 := by omega
      subst this
      rw [if_neg c1, if_neg]
      · simp
      · have := may_bl h; omega
theorem shiftN_up {a : List Nat} (h : may a = true) (n : Nat) (hn : bl (val a) + n ≤ 131072) : (shiftN a (n : Int)).mag = dg (val a * 2 ^ n) := by
  unfold shiftN
  rw [if_pos h]
  by_cases c : val a = 0
  · rw [if_pos c, c, Nat.zero_mul, dg_zero]
  · rw [if_neg c, if_neg (by omega), if_neg (by omega), Int.toNat_natCast]
theorem bl_lt {a b : Nat} (h : bl a < bl b) : a < b := by
  rcases Nat.lt_or_ge a b with c | c
  · exact c
  · have := bl_mono c; omega
theorem val_ne {m : List Nat} (h : may m = true) (hm : m ≠ []) : val m ≠ 0 := fun e => hm ((may_nil h).1 e)
theorem odd_pow_add {a b k : Nat} (hk : 1 ≤ k) (hb : b % 2 = 1) : (a * 2 ^ k + b) % 2 = 1 := by
  obtain ⟨k, rfl⟩ : ∃ j, k = j + 1 := ⟨k - 1, by omega⟩
  rw [Nat.pow_succ, ← Nat.mul_assoc]
  omega
theorem odd_pow_sub {a b k : Nat} (hk : 1 ≤ k) (hb : b % 2 = 1) (h : b ≤ a * 2 ^ k) : (a * 2 ^ k - b) % 2 = 1 := by
  obtain ⟨k, rfl⟩ : ∃ j, k = j + 1 := ⟨k - 1, by omega⟩
  rw [Nat.pow_succ, ← Nat.mul_assoc] at h ⊢
  omega
theorem odd_mul {a b : Nat} (ha : a % 2 = 1) (hb : b % 2 = 1) : a * b % 2 = 1 := by rw [Nat.mul_mod, ha, hb]
theorem sgn_add_same (s : Bool) (a b : Nat) : sgn s a + sgn s b = sgn s (a + b) := by
  unfold sgn; cases s
  · simp
  · simp only [if_true]; omega
theorem sgn_sub {s s' : Bool} (h : s ≠ s') {a b : Nat} (hab : b ≤ a) : sgn s a + sgn s' b = sgn s (a - b) := by
  unfold sgn; cases s <;> cases s' <;> simp at h ⊢ <;> omega
theorem sgn_sub' {s s' : Bool} (h : s ≠ s') {a b : Nat} (hab : a ≤ b) : sgn s a + sgn s' b = sgn s' (b - a) := by
  rw [Int.add_comm]; exact sgn_sub (Ne.symm h) hab
theorem far_aux {A B K : Nat} (h1 : K + 1 < bl A) (h2 : bl B ≤ K) : K < bl (A + B) ∧ K < bl (A - B) ∧ B ≤ A := by
  have hlt : B < 2 ^ K := bl_le.1 h2
  have hge : 2 ^ (K + 1) ≤ A := lt_bl.1 h1
  have hp : 2 ^ (K + 1) = 2 ^ K * 2 := Nat.pow_succ ..
  refine ⟨lt_bl.2 ?_, lt_bl.2 ?_, ?_⟩ <;> omega
/-- numbers too far apart -/
theorem far_long {s s' : Bool} {m m' : List Nat} {e e' : Int} (h : mayD ⟨s, m, e⟩ = true) (h' : mayD ⟨s', m', e'⟩ = true) (hm : m ≠ []) (hm' : m' ≠ []) (hg : 131073 < e - e' + bl (val m)) :
    boundD (addD ⟨s, m, e⟩ ⟨s', m', e'⟩) = (zeroD, 3) := by
  have b1 := may_bl (mayD_may h)
  have b2 := may_bl (mayD_may h')
  obtain ⟨g, hgg⟩ : ∃ g : Nat, e - e' = g := ⟨(e - e').toNat, by omega⟩
  rw [addD_gap (by omega), hgg, Int.toNat_natCast]
  have o := mayD_odd h' hm'
  have hv := val_ne (mayD_may h) hm
  have hA := bl_mul_two_pow hv g
  obtain ⟨k1, k2, k3⟩ := far_aux (A := val m * 2 ^ g) (K := 131072) (by omega) b2
  by_cases c : s = s'
  · subst c
    rw [sgn_add_same, formZ_sgn]
    exact boundD_long (odd_pow_add (by omega) o) k1
  · rw [sgn_sub c k3, formZ_sgn]
    exact boundD_long (odd_pow_sub (by omega) o k3) k2
theorem cmpZ_neg (a b : Nat) : cmpZ (-(a : Int)) (-(b : Int)) = -cmpZ a b := by
  unfold cmpZ
  split <;> split <;> first | omega | (split <;> omega)
theorem cmpN_cmpZ (a b : Nat) : cmpN a b = cmpZ a b := by
  unfold cmpN cmpZ
  simp only [Int.ofNat_lt]
end Go.Dy
