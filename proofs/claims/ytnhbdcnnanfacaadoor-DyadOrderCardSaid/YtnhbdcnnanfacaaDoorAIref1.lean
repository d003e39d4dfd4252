/- The document's layer 1, its first functions: their contracts. -/
import Derived.Test.YtnhbdcnnanfacaaDoorAVref1
namespace Go.Dy
theorem take_dg {l : List Nat} (h : digs l) : l.take (dg (val l)).length = dg (val l) := by
  have hle := length_dg_val h
  refine ext_val (digs_take h _) (digs_dg _) (by simp [hle]) ?_
  rw [val_dg, val_take h, Nat.mod_eq_of_lt]
  exact length_dg_le.1 (Nat.le_refl _)
theorem bl_half {x : Nat} (h : x ≠ 0) : bl x = bl (x / 2) + 1 := by
  have := bl_div_two_pow x 1
  have := bl_pos.2 h
  rw [Nat.pow_one] at *
  omega
theorem diffU_lt : ∀ {a b : List Nat}, a.length = b.length → a ≠ b → diffU a b < a.length ∧ a.getD (diffU a b) 0 ≠ b.getD (diffU a b) 0
  | [], [], _, h => absurd rfl h
  | [], _ :: _, h, _ => by simp at h
  | _ :: _, [], h, _ => by simp at h
  | x :: a, y :: b, h, hn => by
    unfold diffU
    by_cases e : x = y
    · rw [if_pos e]
      have := diffU_lt (a := a) (b := b) (by simpa using h) (fun h' => hn (by rw [e, h']))
      simpa using this
    · rw [if_neg e]
      simpa using e
theorem diffU_eq : ∀ {a b : List Nat} {i : Nat}, a.length = b.length → i < diffU a b → a.getD i 0 = b.getD i 0
  | [], b, i, _, h => by simp [diffU] at h
  | _ :: _, [], i, h, _ => by simp at h
  | x :: a, y :: b, i, hl, h => by
    unfold diffU at h
    by_cases e : x = y
    · rw [if_pos e] at h
      cases i with
      | zero => simpa using e
      | succ i => simpa using diffU_eq (a := a) (b := b) (by simpa using hl) (by omega)
    · rw [if_neg e] at h; omega
theorem tz_bit {v n : Nat} (h : v ≠ 0) (hn : n ≤ tz v) : v / 2 ^ n % 2 = if n = tz v then 1 else 0 := by
  by_cases e : n = tz v
  · rw [if_pos e, e]; exact div_tz_odd h
  · rw [if_neg e]
    obtain ⟨m, hm⟩ := tz_spec h
    have e1 : v / 2 ^ n = 2 * (2 ^ (tz v - n - 1) * (2 * m + 1)) := by
      conv => lhs; rw [hm]
      rw [show tz v = n + (1 + (tz v - n - 1)) by omega, Nat.pow_add, Nat.mul_assoc, Nat.mul_div_cancel_left _ (Nat.two_pow_pos _), Nat.pow_add, Nat.pow_one, Nat.mul_assoc]
      congr 3
      omega
    rw [e1]; omega
end Go.Dy
namespace Go.AI
open Go Go.RowKit Go.Proofs
set_option linter.unusedVariables false
set_option maxRecDepth 100000

theorem loop_ref_Trim : LoopOk Tryd.prog (look tab4) lamRTrim 1 21 keepRTrim (bodyN Tryd.f94 0) lsRTrim := by
  intro vals r h K hK
  unfold lsRTrim at h
  split at h
  · cases h
    rename_i l n
    simp only [evLR] at hK
    obtain ⟨⟨hl, rfl⟩, hK⟩ := hK
    have hl1 := hl.1
    have key : ∀ n : Nat, n ≤ l.length → Dy.val (l.take n) = Dy.val l → ∃ m, iterN Tryd.prog (look tab4) lamRTrim 1 21 keepRTrim (bodyN Tryd.f94 0) m [.dig [1, 2] l, .num .i64 n] K := by
      intro n
      induction n with
      | zero =>
        intro hn hv
        refine iterN_last ?_
        rw [vc_ref_Trim_1]
        refine cond_f rfl ?_
        have : Dy.val l = 0 := hv.symm
        rw [this, Dy.dg_zero] at hK
        exact hK
      | succ n ih =>
        intro hn hv
        have e0 : (((n + 1 : Nat) : Int) - 1) = (n : Int) := by omega
        by_cases c : l.getD n 0 = 0
        · obtain ⟨m, hm⟩ := ih (by omega) (by rw [← hv, Dy.val_take_succ (by omega), c]; simp)
          refine iterN_next m ?_
          rw [vc_ref_Trim_1, e0, wrap_i64 (by omega) (by omega), Int.toNat_natCast]
          exact cond_t (decide_eq_true (by omega)) ⟨by omega, cond_t (decide_eq_true (by omega)) hm⟩
        · refine iterN_last ?_
          rw [vc_ref_Trim_1, e0, wrap_i64 (by omega) (by omega), Int.toNat_natCast]
          refine cond_t (decide_eq_true (by omega)) ⟨by omega, cond_f (decide_eq_false (by omega)) ?_⟩
          have e1 : l.take (n + 1) = Dy.dg (Dy.val l) := by
            rw [← hv]
            refine ((Dy.can_iff (Dy.digs_take hl.2 _)).2 (.inr ?_)).symm
            rw [List.length_take, Nat.min_eq_left hn, Nat.add_sub_cancel, List.getD_eq_getElem?_getD, List.getElem?_take_of_lt (by omega), ← List.getD_eq_getElem?_getD]
            exact c
          rw [← e1, List.length_take, Nat.min_eq_left hn] at hK
          exact hK
    exact key l.length (Nat.le_refl _) (by rw [List.take_length])
  · cases h

theorem ok_ref_Trim (args : List AV) (s : Spec) (h : sTrim args = some s) (hp : andO s.pre True) : Contract Tryd.prog Inv 94 args s.res := by
  unfold sTrim at h
  split at h
  · cases h
    rename_i l
    refine contract_at true 21 lamRTrim ok_tab4 Tryd.func94 (by kernel_rfl) rfl (loops1 (by kernel_rfl) (by kernel_rfl) loop_ref_Trim) fun hok => ?_
    have h1 := (oks1_dig hok).1
    have := Dy.length_dg_val h1.2
    rw [vc_ref_Trim, Int.toNat_natCast, Dy.take_dg h1.2]
    exact ⟨⟨h1, rfl⟩, by omega, rfl⟩
  · cases h

theorem ok_ref_May (args : List AV) (s : Spec) (h : sMay args = some s) (hp : andO s.pre True) : Contract Tryd.prog Inv 18 args s.res := by
  unfold sMay at h
  split at h
  · cases h
    rename_i l
    refine contract0 false ok_tab4 Tryd.func18 (by kernel_rfl) (by kernel_rfl) fun hok => ?_
    have h0 := (oks1_dig hok).1
    have h1 := h0.1
    have h2 := h0.2
    rw [vc_ref_May]
    by_cases c1 : l.length ≤ 4096
    · refine cond_t (by simp; omega) ?_
      by_cases c2 : l = []
      · subst c2
        exact cond_t rfl (by simp [Dy.may, Dy.val, Dy.dg_zero])
      · have hl := List.length_pos_iff.2 c2
        refine cond_f (by simp; omega) ?_
        rw [wrap_i64 (by omega) (by omega), show ((l.length : Int) - 1).toNat = l.length - 1 by omega]
        refine ⟨by omega, ?_⟩
        have e : Dy.may l = !decide (((l.getD (l.length - 1) 0 : Nat) : Int) = 0) := by
          rw [Bool.eq_iff_iff, Dy.may_iff, Dy.can_iff h2]
          simp only [Bool.not_eq_true', decide_eq_false_iff_not]
          constructor
          · rintro ⟨_, h | h⟩
            · exact absurd h c2
            · omega
          · intro h; exact ⟨c1, .inr (by omega)⟩
        rw [e]
    · refine cond_f (by simp; omega) ?_
      have e : Dy.may l = false := by simp only [Dy.may, decide_eq_false_iff_not]; omega
      rw [e]
  · cases h

theorem ok_tab5 : PhiOk Tryd.prog Inv (look tab5) := look_cons (look_cons ok_tab4 ok_ref_May) ok_ref_Trim

theorem ok_ref_Of (args : List AV) (s : Spec) (h : sOf args = some s) (hp : andO s.pre True) : Contract Tryd.prog Inv 65 args s.res := by
  unfold sOf at h
  split at h
  · cases h
    rename_i n
    refine contract0 false ok_tab5 Tryd.func65 (by kernel_rfl) (by kernel_rfl) fun hok => ?_
    have hn := range_u64 (oks1_num hok).1
    rw [vc_ref_Of]
    rw [fdiv_pow hn.1]
    simp only [wrap_u32, Dy.val]
    congr 2
    omega
  · cases h

theorem loop_ref_Same : LoopOk Tryd.prog (look tab5) lamSame 2 26 keepSame (bodyN Tryd.f17 0) lsSame := by
  intro vals r h K hK
  unfold lsSame at h
  split at h
  · cases h
    rename_i a b r i
    simp only [evLR] at hK
    obtain ⟨⟨hl, rfl, ha⟩, hK⟩ := hK
    have ha1 := ha.1
    have key : ∀ u j : Nat, a.length = u + j → (a ≠ b → j ≤ Dy.diffU a b) → (∀ i, i < j → a.getD i 0 = b.getD i 0) → ∃ m, iterN Tryd.prog (look tab5) lamSame 2 26 keepSame (bodyN Tryd.f17 0) m [.dig [1, 2, 3] a, .dig [1, 2, 3] b, .bool r, .num .i64 j] K := by
      intro u
      induction u with
      | zero =>
        intro j hj hd he
        refine iterN_last ?_
        rw [vc_ref_Same_1]
        refine cond_f (decide_eq_false (by omega)) ?_
        have e : a = b := by
          refine List.ext_getElem hl fun i h1 h2 => ?_
          have := he i (by omega)
          simpa [List.getD_eq_getElem?_getD, h1, h2] using this
        rw [decide_eq_true e] at hK
        have : (j : Int) = (a.length : Int) := by omega
        rw [this]
        exact hK
      | succ u ih =>
        intro j hj hd he
        by_cases c : a.getD j 0 = b.getD j 0
        · obtain ⟨m, hm⟩ := ih (j + 1) (by omega) (fun hn => by
              have h1 := hd hn
              have h2 := (Dy.diffU_lt hl hn).2
              rcases Nat.lt_or_ge j (Dy.diffU a b) with h | h
              · exact h
              · have : j = Dy.diffU a b := by omega
                rw [this] at c
                exact absurd c h2) (fun i hi => by
              rcases Nat.lt_or_ge i j with h | h
              · exact he i h
              · have : i = j := by omega
                rw [this]; exact c)
          refine iterN_next m ?_
          rw [vc_ref_Same_1, wrap_i64 (by omega) (by omega), Int.toNat_natCast]
          exact cond_t (decide_eq_true (by omega)) ⟨by omega, by omega, cond_f (by rw [decide_eq_true (by omega)]; rfl) hm⟩
        · refine iterN_last ?_
          rw [vc_ref_Same_1, Int.toNat_natCast]
          refine cond_t (decide_eq_true (by omega)) ⟨by omega, by omega, cond_t (by rw [decide_eq_false (by omega)]; rfl) ?_⟩
          have hn : a ≠ b := fun e => c (by rw [e])
          have h1 := hd hn
          have h2 : ¬ j < Dy.diffU a b := fun h => c (Dy.diffU_eq hl h)
          have : j = Dy.diffU a b := by omega
          rw [decide_eq_false hn, ← this] at hK
          exact hK
    exact key a.length 0 (by omega) (fun _ => Nat.zero_le _) (fun i h => absurd h (Nat.not_lt_zero _))
  · cases h

theorem ok_ref_Same (args : List AV) (s : Spec) (h : sSame args = some s) (hp : andO s.pre True) : Contract Tryd.prog Inv 17 args s.res := by
  unfold sSame at h
  split at h
  · cases h
    rename_i a b
    refine contract_at false 26 lamSame ok_tab5 Tryd.func17 (by kernel_rfl) rfl (loops1 (by kernel_rfl) (by kernel_rfl) loop_ref_Same) fun hok => ?_
    have ha := (oks1_dig hok).1
    rw [vc_ref_Same]
    refine cond_i (fun h => ?_) (fun h => ⟨?_, cond_i (fun h' => ?_) (fun h' => ?_)⟩)
    · simp only [Bool.not_eq_true'] at h
      have h := of_decide_eq_false h
      have : a ≠ b := fun e => h (by rw [e])
      simp only [decide_eq_false this]
    · simp only [Bool.not_eq_false'] at h
      have h := of_decide_eq_true h
      exact ⟨by omega, rfl, ha⟩
    · rw [h']
    · rw [h']
  · cases h

theorem loop_ref_Cmp : LoopOk Tryd.prog (look tab5) lamRCmp 2 41 [(0, .same), (1, .same), (4, .same), (5, .same)] (bodyN Tryd.f82 0) lsRCmp := by
  intro vals r h K hK
  unfold lsRCmp at h
  split at h
  · cases h
    rename_i a b r i
    simp only [evLR] at hK
    obtain ⟨⟨hl, h1, h2, h3⟩, hK⟩ := hK
    generalize hn : (i + 1).toNat = n at hK
    induction n generalizing i with
    | zero =>
      have : i = -1 := by omega
      subst this
      refine iterN_last ?_
      rw [vc_ref_Cmp_1]
      refine cond_f rfl ?_
      simpa [Dy.diffI] using hK
    | succ n ih =>
      have hi : i = n := by omega
      subst hi
      by_cases c : a.getD n 0 = b.getD n 0
      · have e : Dy.diffI a b (n + 1) = Dy.diffI a b n := by rw [Dy.diffI, if_pos c]
        rw [e] at hK
        obtain ⟨m, hm⟩ := ih ((n : Int) - 1) (by omega) (by omega) (by omega) hK
        refine iterN_next m ?_
        rw [vc_ref_Cmp_1, Int.toNat_natCast, wrap_i64 (by omega) (by omega)]
        exact cond_t (decide_eq_true (by omega)) ⟨by omega, by omega, cond_f (decide_eq_false (by omega)) ⟨by omega, by omega, cond_f (decide_eq_false (by omega)) hm⟩⟩
      · have e : Dy.diffI a b (n + 1) = n := by rw [Dy.diffI, if_neg c]
        rw [e, decide_eq_true (by omega : (0 : Int) ≤ (n : Int))] at hK
        simp only [cond_true, Int.toNat_natCast] at hK
        refine iterN_last ?_
        rw [vc_ref_Cmp_1, Int.toNat_natCast]
        refine cond_t (decide_eq_true (by omega)) ⟨by omega, by omega, cond_i (fun h => ?_) (fun h => ⟨by omega, by omega, cond_t ?_ ?_⟩)⟩
        · rw [if_pos (by have := of_decide_eq_true h; omega)] at hK; exact hK
        · exact decide_eq_true (by have := of_decide_eq_false h; omega)
        · rw [if_neg (by have := of_decide_eq_false h; omega)] at hK; exact hK
  · cases h

theorem ok_ref_Cmp (args : List AV) (s : Spec) (h : sCmp args = some s) (hp : andO s.pre True) : Contract Tryd.prog Inv 82 args s.res := by
  unfold sCmp at h
  split at h
  · cases h
    rename_i a b
    obtain ⟨⟨ca, cb⟩, -⟩ := hp
    refine contract_at false 41 lamRCmp ok_tab5 Tryd.func82 (by kernel_rfl) rfl (loops1 (by kernel_rfl) (by kernel_rfl) loop_ref_Cmp) fun hok => ?_
    have ha := (oks1_dig hok).1
    have hb := (oks1_dig (oks1_dig hok).2).1
    have ha1 := ha.1
    rw [vc_ref_Cmp]
    refine cond_i (fun h => cond_i (fun h' => ?_) (fun h' => ?_)) (fun h => ?_)
    · have h' := of_decide_eq_true h'
      have := @Dy.lt_of_length_lt (Dy.val a) (Dy.val b) (by rw [ca, cb]; omega)
      simp only [Dy.cmpN, if_pos this]
    · simp only [Bool.not_eq_true'] at h
      have h := of_decide_eq_false h
      have h' := of_decide_eq_false h'
      have := @Dy.lt_of_length_lt (Dy.val b) (Dy.val a) (by rw [ca, cb]; omega)
      simp only [Dy.cmpN, if_pos this, if_neg (Nat.lt_asymm this)]
    · simp only [Bool.not_eq_false'] at h
      have h := of_decide_eq_true h
      have hl : a.length = b.length := by omega
      rw [wrap_i64 (by omega) (by omega), show ((a.length : Int) - 1 + 1).toNat = a.length by omega]
      have key := Dy.cmp_diff ha.2 hb.2 a.length (Nat.le_refl _) (by omega)
      rw [List.take_length, hl, List.take_length] at key
      refine ⟨by omega, cond_i (fun h0 => ?_) (fun h0 => ?_)⟩
      · have h0 := of_decide_eq_true h0
        rw [hl] at h0 ⊢
        rw [if_neg (by omega)] at key
        by_cases c : a.getD (Dy.diffI a b b.length).toNat 0 < b.getD (Dy.diffI a b b.length).toNat 0
        · rw [if_pos c]
          simp only [Dy.cmpN, if_pos (key.1.1 c)]
        · have h1 : ¬ Dy.val a < Dy.val b := fun h => c (key.1.2 h)
          rw [if_neg c]
          simp only [Dy.cmpN, if_neg h1, if_pos (by omega : Dy.val b < Dy.val a)]
      · have h0 := of_decide_eq_false h0
        rw [hl] at h0
        rw [if_pos (by omega)] at key
        simp [Dy.cmpN, key]
  · cases h

theorem loop_ref_Add : LoopOk Tryd.prog (look tab5) lamRAdd 2 55 keepRAdd (bodyN Tryd.f77 0) lsRAdd := by
  intro vals r h K hK
  unfold lsRAdd at h
  split at h
  · cases h
    rename_i a b o c i
    simp only [evLR] at hK
    obtain ⟨⟨ha, hb, ha1, hb1, rfl, rfl, rfl⟩, hK⟩ := hK
    generalize hM : max a.length b.length = M at hK
    have key : ∀ (u j c : Nat) (o : List Nat), M = u + j → o.length = j → Dy.digs o → c ≤ 1 → Dy.val o + 2 ^ (32 * j) * (c + Dy.val (a.drop j) + Dy.val (b.drop j)) = Dy.val a + Dy.val b →
        ∃ m, iterN Tryd.prog (look tab5) lamRAdd 2 55 keepRAdd (bodyN Tryd.f77 0) m [.dig [1, 2, 3] a, .dig [1, 2, 3] b, .grown 63 o, .num .u64 c, .num .i64 j] K := by
      intro u
      induction u with
      | zero =>
        intro j c o hj hol hod hc hv
        refine iterN_last ?_
        rw [vc_ref_Add_1]
        refine cond_f (decide_eq_false (by omega)) (cond_f (decide_eq_false (by omega)) ?_)
        have hja : j = M := by omega
        subst hja
        simp only [Dy.drop_le a (show a.length ≤ j by omega), Dy.drop_le b (show b.length ≤ j by omega), Nat.add_zero] at hv
        have hq := Dy.take_dgN hod (n := j) (c := c) (y := Dy.val a + Dy.val b) (by omega) (by rw [List.take_of_length_le (by omega)]; exact hv)
        rw [List.take_of_length_le (by omega)] at hq
        rw [← hq.1, ← hq.2] at hK
        exact hK
      | succ u ih =>
        intro j c o hj hol hod hc hv
        have hx := Dy.digs_getD ha.2 j
        have hy := Dy.digs_getD hb.2 j
        rw [Dy.val_drop_step a, Dy.val_drop_step b] at hv
        have ha0 : ¬ j < a.length → a.getD j 0 = 0 := fun h => by rw [List.getD_eq_getElem?_getD, List.getElem?_eq_none (by omega)]; rfl
        have hb0 : ¬ j < b.length → b.getD j 0 = 0 := fun h => by rw [List.getD_eq_getElem?_getD, List.getElem?_eq_none (by omega)]; rfl
        obtain ⟨m, hm⟩ := ih (j + 1) ((c + a.getD j 0 + b.getD j 0) / 4294967296) (o ++ [(c + a.getD j 0 + b.getD j 0) % 4294967296]) (by omega) (by simp [hol]) (Dy.digs_append.2 ⟨hod, Dy.digs_cons.2 ⟨by omega, Dy.digs_nil⟩⟩) (by omega) (by
            rw [Dy.val_snoc, hol, Dy.pow_split, Nat.mul_assoc, Nat.add_assoc, ← Nat.mul_add, ← hv]
            congr 2
            omega)
        refine iterN_next m ?_
        rw [vc_ref_Add_1]
        rw [Int.toNat_natCast, wrap_i64 (n := (j : Int) + 1) (by omega) (by omega)]
        generalize hxx : a.getD j 0 = x at hx ha0 hm ⊢
        generalize hyy : b.getD j 0 = y at hy hb0 hm ⊢
        have fin : ∀ X : Int, X = ((c + x + y : Nat) : Int) → (0 ≤ [(IntKind.u32.wrap X).toNat].length ∧ o.length + [(IntKind.u32.wrap X).toNat].length ≤ 1099511627776) ∧
            iterN Tryd.prog (look tab5) lamRAdd 2 55 keepRAdd (bodyN Tryd.f77 0) m [.dig [1, 2, 3] a, .dig [1, 2, 3] b, .grown 63 (o ++ [(IntKind.u32.wrap X).toNat]), .num .u64 (X.fdiv (2 ^ 32)), .num .i64 ((j : Int) + 1)] K := by
          rintro _ rfl
          rw [fdiv_pow (by omega), Int.toNat_natCast, wrap_u32]
          have e1 : (((c + x + y : Nat) : Int) % 4294967296).toNat = (c + x + y) % 4294967296 := by omega
          rw [e1]
          exact ⟨⟨by simp, by simp; omega⟩, hm⟩
        refine cond_i (fun h => cond_i (fun h1 => ⟨by have := of_decide_eq_true h; omega, cond_i (fun h2 => ?_) (fun h2 => ?_)⟩) (fun h1 => ?_)) (fun h => cond_i (fun h0 => ?_) (fun h0 => ?_))
        · have h2 := of_decide_eq_true h2
          exact ⟨by omega, fin _ (by simp only [wrap_u64]; omega)⟩
        · have h2 := hb0 (by have := of_decide_eq_false h2; omega)
          exact fin _ (by simp only [wrap_u64]; omega)
        · rw [h] at h1; cases h1
        · refine cond_f h (cond_t h0 ?_)
          have h := ha0 (by have := of_decide_eq_false h; omega)
          have h0 := of_decide_eq_true h0
          exact ⟨by omega, fin _ (by simp only [wrap_u64]; omega)⟩
        · have := of_decide_eq_false h; have := of_decide_eq_false h0; omega
    exact key M 0 0 [] (by omega) rfl Dy.digs_nil (by omega) (by simp [Dy.val])
  · cases h

theorem ok_ref_Add (args : List AV) (s : Spec) (h : rAdd args = some s) (hp : andO s.pre True) : Contract Tryd.prog Inv 77 args s.res := by
  unfold rAdd at h
  split at h
  · cases h
    rename_i a b
    obtain ⟨⟨ha1, hb1⟩, -⟩ := hp
    refine contract_at false 55 lamRAdd ok_tab5 Tryd.func77 (by kernel_rfl) rfl (loops1 (by kernel_rfl) (by kernel_rfl) loop_ref_Add) fun hok => ?_
    have ha := (oks1_dig hok).1
    have hb := (oks1_dig (oks1_dig hok).2).1
    rw [vc_ref_Add]
    have la := Nat.lt_of_lt_of_le (Dy.val_lt ha.2) (Nat.pow_le_pow_right (by decide) (show 32 * a.length ≤ 32 * max a.length b.length by omega))
    have lb := Nat.lt_of_lt_of_le (Dy.val_lt hb.2) (Nat.pow_le_pow_right (by decide) (show 32 * b.length ≤ 32 * max a.length b.length by omega))
    have hc : (Dy.val a + Dy.val b) / 2 ^ (32 * max a.length b.length) < 2 := by
      rw [Nat.div_lt_iff_lt_mul (Nat.two_pow_pos _)]; omega
    have e : (IntKind.u32.wrap (((Dy.val a + Dy.val b) / 2 ^ (32 * max a.length b.length) : Nat) : Int)).toNat = (Dy.val a + Dy.val b) / 2 ^ (32 * max a.length b.length) := by
      generalize (Dy.val a + Dy.val b) / 2 ^ (32 * max a.length b.length) = y at hc ⊢
      rw [wrap_u32]; omega
    rw [e]
    refine ⟨⟨ha, hb, ha1, hb1, rfl, rfl, rfl⟩, ⟨by simp, by simp [Dy.dgN_length]; omega⟩, ?_⟩
    rw [Dy.val_snoc, Dy.val_dgN, Dy.dgN_length, Nat.mod_add_div]
  · cases h

theorem loop_ref_Sub : LoopOk Tryd.prog (look tab5) lamRSub 2 47 keepRAdd (bodyN Tryd.f83 0) lsRSub := by
  intro vals r h K hK
  unfold lsRSub at h
  split at h
  · cases h
    rename_i a b o c i
    simp only [evLR] at hK
    obtain ⟨⟨ha, hb, ha1, hba, rfl, rfl, rfl⟩, hK⟩ := hK
    have key : ∀ (u j c : Nat) (o : List Nat), a.length = u + j → o.length = j → Dy.digs o → c ≤ 1 → Dy.val o + 2 ^ (32 * j) * Dy.val (a.drop j) + Dy.val b = Dy.val a + 2 ^ (32 * j) * (c + Dy.val (b.drop j)) →
        ∃ m, iterN Tryd.prog (look tab5) lamRSub 2 47 keepRAdd (bodyN Tryd.f83 0) m [.dig [1, 2, 3] a, .dig [1, 2, 3] b, .grown 63 o, .num .u64 c, .num .i64 j] K := by
      intro u
      induction u with
      | zero =>
        intro j c o hj hol hod hc hv
        refine iterN_last ?_
        rw [vc_ref_Sub_1]
        refine cond_f (decide_eq_false (by omega)) ?_
        have hja : j = a.length := by omega
        subst hja
        rw [List.drop_length] at hv
        have hlt := Dy.val_lt hod
        rw [hol] at hlt
        have hvb : Dy.val (b.drop a.length) = 0 := by
          rw [Dy.val_drop hb.2]
          exact Nat.div_eq_of_lt (Nat.lt_of_le_of_lt hba (Dy.val_lt ha.2))
        rw [hvb] at hv
        simp only [Dy.val, Nat.mul_zero, Nat.add_zero] at hv
        have hc0 : c = 0 := by
          rcases Nat.eq_zero_or_pos c with h | h
          · exact h
          · have : c = 1 := by omega
            subst this
            omega
        subst hc0
        have ho : o = Dy.dgN a.length (Dy.val a - Dy.val b) := by
          rw [show Dy.val a - Dy.val b = Dy.val o by omega]
          exact (Dy.dgN_val' hod hol).symm
        rw [ho]
        exact hK
      | succ u ih =>
        intro j c o hj hol hod hc hv
        have hx := Dy.digs_getD ha.2 j
        have hy := Dy.digs_getD hb.2 j
        have hb0 : ¬ j < b.length → b.getD j 0 = 0 := fun h => by rw [List.getD_eq_getElem?_getD, List.getElem?_eq_none (by omega)]; rfl
        rw [Dy.val_drop_step a, Dy.val_drop_step b] at hv
        generalize hxx : a.getD j 0 = x at hx hv
        generalize hyy : b.getD j 0 = y at hy hv hb0
        have hd : ∃ d : Nat, (((x : Int) - (y : Int) - (c : Int)) % 4294967296).toNat = d ∧ d < 4294967296 ∧ d + y + c = x + 4294967296 * (if x < y + c then 1 else 0) := by
          refine ⟨_, rfl, by omega, ?_⟩
          split <;> omega
        obtain ⟨d, hd1, hd2, hd3⟩ := hd
        obtain ⟨m, hm⟩ := ih (j + 1) (if x < y + c then 1 else 0) (o ++ [d]) (by omega) (by simp [hol]) (Dy.digs_append.2 ⟨hod, Dy.digs_cons.2 ⟨hd2, Dy.digs_nil⟩⟩) (by split <;> omega) (by
            rw [Dy.val_snoc, hol, Dy.pow_split]
            generalize (if x < y + c then 1 else 0) = e at hd3 ⊢
            generalize 2 ^ (32 * j) = p at hv ⊢
            have h1 : p * (d + y + c) = p * (x + 4294967296 * e) := by rw [hd3]
            simp only [Nat.mul_add, Nat.mul_assoc] at hv h1 ⊢
            omega)
        refine iterN_next m ?_
        rw [vc_ref_Sub_1]
        rw [Int.toNat_natCast, wrap_i64 (n := (j : Int) + 1) (by omega) (by omega), hxx, hyy]
        have fin : ∀ (X : Int) (e : Nat), IntKind.u32.wrap X = (d : Int) → e = (if x < y + c then 1 else 0) → (0 ≤ [(IntKind.u32.wrap X).toNat].length ∧ o.length + [(IntKind.u32.wrap X).toNat].length ≤ 1099511627776) ∧
            iterN Tryd.prog (look tab5) lamRSub 2 47 keepRAdd (bodyN Tryd.f83 0) m [.dig [1, 2, 3] a, .dig [1, 2, 3] b, .grown 63 (o ++ [(IntKind.u32.wrap X).toNat]), .num .u64 (e : Int), .num .i64 ((j : Int) + 1)] K := by
          intro X e h1 h2
          rw [h1, Int.toNat_natCast, h2]
          exact ⟨⟨by simp, by simp; omega⟩, hm⟩
        refine cond_t (decide_eq_true (by omega)) (cond_i (fun h => ?_) (fun h => ?_))
        · have h := of_decide_eq_true h
          refine ⟨by omega, by omega, cond_i (fun h1 => ?_) (fun h1 => ?_)⟩
          · have h1 := of_decide_eq_true h1
            simp only [wrap_u64] at h1
            have h2 : x < y + c := by omega
            rw [if_pos h2] at hd3
            exact fin _ 1 (by simp only [wrap_u64, wrap_u32]; omega) (by rw [if_pos h2])
          · have h1 := of_decide_eq_false h1
            simp only [wrap_u64] at h1
            have h2 : ¬ x < y + c := by omega
            rw [if_neg h2] at hd3
            exact fin _ 0 (by simp only [wrap_u64, wrap_u32]; omega) (by rw [if_neg h2])
        · have hy0 := hb0 (by have := of_decide_eq_false h; omega)
          refine ⟨by omega, cond_i (fun h1 => ?_) (fun h1 => ?_)⟩
          · have h1 := of_decide_eq_true h1
            simp only [wrap_u64] at h1
            have h2 : x < y + c := by omega
            rw [if_pos h2] at hd3
            exact fin _ 1 (by simp only [wrap_u64, wrap_u32]; omega) (by rw [if_pos h2])
          · have h1 := of_decide_eq_false h1
            simp only [wrap_u64] at h1
            have h2 : ¬ x < y + c := by omega
            rw [if_neg h2] at hd3
            exact fin _ 0 (by simp only [wrap_u64, wrap_u32]; omega) (by rw [if_neg h2])
    exact key a.length 0 0 [] (by omega) rfl Dy.digs_nil (by omega) (by simp [Dy.val])
  · cases h

theorem ok_ref_Sub (args : List AV) (s : Spec) (h : sSubL args = some s) (hp : andO s.pre True) : Contract Tryd.prog Inv 83 args s.res := by
  unfold sSubL at h
  split at h
  · cases h
    rename_i a b
    obtain ⟨⟨hba, ha1⟩, -⟩ := hp
    refine contract_at false 47 lamRSub ok_tab5 Tryd.func83 (by kernel_rfl) rfl (loops1 (by kernel_rfl) (by kernel_rfl) loop_ref_Sub) fun hok => ?_
    have ha := (oks1_dig hok).1
    have hb := (oks1_dig (oks1_dig hok).2).1
    rw [vc_ref_Sub]
    refine ⟨⟨ha, hb, ha1, hba, rfl, rfl, rfl⟩, ?_⟩
    rw [Dy.dg_val_dgN (Nat.lt_of_le_of_lt (Nat.sub_le _ _) (Dy.val_lt ha.2))]
  · cases h

theorem loop_ref_Len : LoopOk Tryd.prog (look tab5) lamRLen 1 25 keepRLen (bodyN Tryd.f78 0) lsRLen := by
  intro vals r h K hK
  unfold lsRLen at h
  split at h
  · cases h
    rename_i n x
    simp only [evLR] at hK
    obtain ⟨⟨h0, h1, h2, h3⟩, hK⟩ := hK
    obtain ⟨x, rfl⟩ := Int.eq_ofNat_of_zero_le h2
    rw [Int.toNat_natCast] at hK
    have key : ∀ (x : Nat) (n : Int), 0 ≤ n → n + Dy.bl x ≤ 1099511627776 + 32 → x < 4294967296 → K (.exit 0) [.num .i64 (n + (Dy.bl x : Nat)), .num .u32 0] →
        ∃ m, iterN Tryd.prog (look tab5) lamRLen 1 25 keepRLen (bodyN Tryd.f78 0) m [.num .i64 n, .num .u32 x] K := by
      intro x
      induction x using Nat.strongRecOn with
      | _ x ih =>
        intro n h0 h1 hx hK
        by_cases c : x = 0
        · subst c
          refine iterN_last ?_
          rw [vc_ref_Len_1]
          refine cond_f rfl ?_
          simpa [Dy.bl_zero] using hK
        · have hb := Dy.bl_half c
          obtain ⟨m, hm⟩ := ih (x / 2) (Nat.div_lt_self (by omega) (by omega)) (n + 1) (by omega) (by omega) (by omega) (by rw [show n + 1 + (Dy.bl (x / 2) : Int) = n + (Dy.bl x : Int) by omega]; exact hK)
          refine iterN_next m ?_
          rw [vc_ref_Len_1, wrap_i64 (by omega) (by omega), fdiv_pow (by omega), Int.toNat_natCast]
          exact cond_t (decide_eq_true (by omega)) hm
    have hb := (Dy.bl_le (n := x) (k := 32)).2 (by omega)
    exact key x n h0 (by omega) (by omega) hK
  · cases h

theorem ok_ref_Len (args : List AV) (s : Spec) (h : rLen args = some s) (hp : andO s.pre True) : Contract Tryd.prog Inv 78 args s.res := by
  unfold rLen at h
  split at h
  · cases h
    rename_i a
    obtain ⟨⟨hc, ha1⟩, -⟩ := hp
    refine contract_at false 25 lamRLen ok_tab5 Tryd.func78 (by kernel_rfl) rfl (loops1 (by kernel_rfl) (by kernel_rfl) loop_ref_Len) fun hok => ?_
    have ha := (oks1_dig hok).1
    rw [vc_ref_Len]
    refine cond_i (fun h => ?_) (fun h => ?_)
    · have h := of_decide_eq_true h
      have : a = [] := List.length_eq_zero_iff.1 (by omega)
      subst this
      rfl
    · have h := of_decide_eq_false h
      have hne : a ≠ [] := fun e => h (by rw [e]; rfl)
      have hb := Dy.bl_digits ha.2 hne (((Dy.can_iff ha.2).1 hc).resolve_left hne)
      have hx := Dy.digs_getD ha.2 (a.length - 1)
      rw [wrap_i64 (n := (a.length : Int) - 1) (by omega) (by omega), show ((a.length : Int) - 1).toNat = a.length - 1 by omega, Int.toNat_natCast, wrap_i64 (by omega) (by omega), hb]
      refine ⟨by omega, by omega, ?_⟩
      congr 1
      omega
  · cases h

theorem ok_ref_Bit (args : List AV) (s : Spec) (h : rBit args = some s) (hp : andO s.pre True) : Contract Tryd.prog Inv 62 args s.res := by
  unfold rBit at h
  split at h
  · cases h
    rename_i a i
    refine contract0 false ok_tab5 Tryd.func62 (by kernel_rfl) (by kernel_rfl) fun hok => ?_
    have ha := (oks1_dig hok).1
    have hr := range_i64 (oks1_num (oks1_dig hok).2).1
    rw [vc_ref_Bit]
    refine cond_i (fun h => ?_) (fun h => ?_)
    · have h := of_decide_eq_true h
      rw [if_pos h]
      rfl
    · have h := of_decide_eq_false h
      rw [if_neg h]
      obtain ⟨n, rfl⟩ := Int.eq_ofNat_of_zero_le (show 0 ≤ i by omega)
      have e1 : IntKind.i64.wrap ((n : Int).tdiv 32) = ((n / 32 : Nat) : Int) := by
        rw [Int.tdiv_eq_ediv_of_nonneg (by omega), wrap_i64 (by omega) (by omega)]; omega
      have e2 : (n : Int).tmod 32 = ((n % 32 : Nat) : Int) := by rw [Int.tmod_eq_emod_of_nonneg (by omega)]; omega
      rw [e1, e2]
      simp only [Int.toNat_natCast]
      have hsp : 2 ^ n = 2 ^ (32 * (n / 32)) * 2 ^ (n % 32) := by rw [← Nat.pow_add, show 32 * (n / 32) + n % 32 = n by omega]
      refine cond_i (fun h => ?_) (fun h => ?_)
      · have h := of_decide_eq_true h
        have : Dy.val a / 2 ^ n = 0 := Nat.div_eq_of_lt (Nat.lt_of_lt_of_le (Dy.val_lt ha.2) (Nat.pow_le_pow_right (by decide) (by omega)))
        rw [this]
        rfl
      · have h := of_decide_eq_false h
        refine ⟨by omega, by omega, ?_⟩
        have hx := Dy.digs_getD ha.2 (n / 32)
        have hdiv : Dy.val a / 2 ^ n % 2 = a.getD (n / 32) 0 / 2 ^ (n % 32) % 2 := by
          rw [hsp, ← Nat.div_div_eq_div_mul, ← Dy.val_drop ha.2, Dy.val_drop_step]
          have e3 : 4294967296 * Dy.val (a.drop (n / 32 + 1)) = 2 ^ (n % 32) * (2 * (2 ^ (31 - n % 32) * Dy.val (a.drop (n / 32 + 1)))) := by
            rw [← Nat.mul_assoc 2, ← Nat.pow_succ', ← Nat.mul_assoc, ← Nat.pow_add, show n % 32 + (31 - n % 32 + 1) = 32 by omega]
          rw [e3, Nat.add_mul_div_left _ _ (Nat.two_pow_pos _)]
          omega
        have hq : a.getD (n / 32) 0 / 2 ^ (n % 32) ≤ a.getD (n / 32) 0 := Nat.div_le_self _ _
        rw [hdiv, Nat.min_eq_left (by omega), fdiv_pow (by omega), Int.toNat_natCast]
        generalize a.getD (n / 32) 0 / 2 ^ (n % 32) = w at hq ⊢
        rw [w32_and (by omega) (by omega) (by omega) (by omega), Int.toNat_natCast, show (1 : Int).toNat = 1 from rfl, Nat.and_one_is_mod]
  · cases h

theorem loop_ref_Up : LoopOk Tryd.prog (look tab5) lamRUp 2 45 keepRUp (bodyN Tryd.f67 0) lsRUp := by
  intro vals r h K hK
  unfold lsRUp at h
  split at h
  · cases h
    rename_i a o s c i
    simp only [evLR] at hK
    obtain ⟨⟨ha, ha1, hs0, hs1, hol, rfl, rfl⟩, hK⟩ := hK
    obtain ⟨s, rfl⟩ := Int.eq_ofNat_of_zero_le hs0
    simp only [Int.toNat_natCast] at hK
    have key : ∀ (u j c : Nat) (q : List Nat), a.length = u + j → q.length = j → Dy.digs q → c < 2 ^ s → Dy.val q + 2 ^ (32 * j) * (c + 2 ^ s * Dy.val (a.drop j)) = Dy.val a * 2 ^ s →
        ∃ m, iterN Tryd.prog (look tab5) lamRUp 2 45 keepRUp (bodyN Tryd.f67 0) m [.dig [1, 2, 3] a, .grown 63 (o ++ q), .num .i64 s, .num .u64 c, .num .i64 j] K := by
      intro u
      induction u with
      | zero =>
        intro j c q hj hql hqd hc hv
        refine iterN_last ?_
        rw [vc_ref_Up_1]
        refine cond_f (decide_eq_false (by omega)) ?_
        have hja : j = a.length := by omega
        subst hja
        simp only [List.drop_length, Dy.val, Nat.mul_zero, Nat.add_zero] at hv
        have hq := Dy.take_dgN hqd (n := a.length) (c := c) (y := Dy.val a * 2 ^ s) (by omega) (by rw [List.take_of_length_le (by omega)]; exact hv)
        rw [List.take_of_length_le (by omega)] at hq
        rw [← hq.1, ← hq.2] at hK
        exact hK
      | succ u ih =>
        intro j c q hj hql hqd hc hv
        have hx := Dy.digs_getD ha.2 j
        rw [Dy.val_drop_step a] at hv
        generalize hxx : a.getD j 0 = x at hx hv
        have hs : 2 ^ s * 2 ^ (32 - s) = 4294967296 := by rw [← Nat.pow_add, show s + (32 - s) = 32 by omega]
        have hs31 : 2 ^ s ≤ 2 ^ 31 := Nat.pow_le_pow_right (by decide) (by omega)
        have hxs : x * 2 ^ s ≤ 4294967295 * 2 ^ s := Nat.mul_le_mul_right _ (by omega)
        have hcn : (x * 2 ^ s + c) / 4294967296 < 2 ^ s := by
          rw [Nat.div_lt_iff_lt_mul (by decide)]
          omega
        obtain ⟨m, hm⟩ := ih (j + 1) ((x * 2 ^ s + c) / 4294967296) (q ++ [(x * 2 ^ s + c) % 4294967296]) (by omega) (by simp [hql]) (Dy.digs_append.2 ⟨hqd, Dy.digs_cons.2 ⟨by omega, Dy.digs_nil⟩⟩) hcn (by
            rw [← hv, Dy.val_snoc, hql, Dy.pow_split, Nat.mul_add (2 ^ s), Nat.mul_comm (2 ^ s) x]
            have h1 : x * 2 ^ s + c = (x * 2 ^ s + c) % 4294967296 + 4294967296 * ((x * 2 ^ s + c) / 4294967296) := by omega
            generalize (x * 2 ^ s + c) % 4294967296 = lo at h1 ⊢
            generalize (x * 2 ^ s + c) / 4294967296 = hi at h1 ⊢
            rw [show c + (x * 2 ^ s + 2 ^ s * (4294967296 * Dy.val (a.drop (j + 1)))) = (lo + 4294967296 * hi) + 2 ^ s * (4294967296 * Dy.val (a.drop (j + 1))) by omega]
            rw [Nat.mul_left_comm (2 ^ s) 4294967296]
            generalize 2 ^ (32 * j) = p
            simp only [Nat.mul_add, Nat.mul_assoc]
            omega)
        refine iterN_next m ?_
        rw [vc_ref_Up_1]
        simp only [Int.toNat_natCast, List.length_cons, List.length_nil]
        rw [hxx]
        have hmin : min s 64 = s := by omega
        have hpow : ((2 : Int) ^ s) = ((2 ^ s : Nat) : Int) := by simp
        have e2 : IntKind.u64.wrap (IntKind.u64.wrap (x : Int) * 2 ^ min s 64) = ((x * 2 ^ s : Nat) : Int) := by
          have q1 : IntKind.u64.wrap (x : Int) = (x : Int) := by rw [wrap_u64]; omega
          rw [hmin, hpow, q1, wrap_u64, ← Int.natCast_mul]
          generalize x * 2 ^ s = y at hxs ⊢
          omega
        have e3 : c ||| (x * 2 ^ s) = x * 2 ^ s + c := by rw [Nat.or_comm, or_low hc]
        rw [e2, w64_or (by omega) (by omega) (by omega) (by omega)]
        simp only [Int.toNat_natCast]
        rw [e3, fdiv_pow (by omega), Int.toNat_natCast, wrap_u32, wrap_i64 (by omega) (by omega)]
        have e5 : (((x * 2 ^ s + c : Nat) : Int) % 4294967296).toNat = (x * 2 ^ s + c) % 4294967296 := by
          generalize x * 2 ^ s + c = y
          omega
        rw [e5, List.append_assoc]
        exact cond_t (decide_eq_true (by omega)) ⟨by omega, by omega, ⟨by omega, by rw [List.length_append]; omega⟩, hm⟩
    have := key a.length 0 0 [] (by omega) rfl Dy.digs_nil (Nat.two_pow_pos _) (by simp [Dy.val]; exact Nat.mul_comm _ _)
    rw [List.append_nil] at this
    exact this
  · cases h

theorem ok_ref_Up (args : List AV) (s : Spec) (h : sUp args = some s) (hp : andO s.pre True) : Contract Tryd.prog Inv 67 args s.res := by
  unfold sUp at h
  split at h
  · cases h
    rename_i a n
    obtain ⟨⟨hn, hn1, hal⟩, -⟩ := hp
    refine contract_at false 45 lamRUp ok_tab5 Tryd.func67 (by kernel_rfl) rfl (loops1 (by kernel_rfl) (by kernel_rfl) loop_ref_Up) fun hok => ?_
    have ha := (oks1_dig hok).1
    obtain ⟨n, rfl⟩ := Int.eq_ofNat_of_zero_le hn
    rw [vc_ref_Up]
    refine cond_i (fun h => ?_) (fun h => ?_)
    · have h := of_decide_eq_true h
      have : a = [] := List.length_eq_zero_iff.1 (by omega)
      subst this
      simp [Dy.val, Dy.dg_zero]
    · have e1 : IntKind.i64.wrap ((n : Int).tdiv 32) = ((n / 32 : Nat) : Int) := by
        rw [Int.tdiv_eq_ediv_of_nonneg (by omega), wrap_i64 (by omega) (by omega)]; omega
      have e2 : (n : Int).tmod 32 = ((n % 32 : Nat) : Int) := by rw [Int.tmod_eq_emod_of_nonneg (by omega)]; omega
      rw [e1, e2]
      have e3 : (IntKind.u32.wrap ((Dy.val a * 2 ^ (n % 32) / 2 ^ (32 * a.length) : Nat) : Int)).toNat = Dy.val a * 2 ^ (n % 32) / 2 ^ (32 * a.length) := by
        have h1 : Dy.val a * 2 ^ (n % 32) / 2 ^ (32 * a.length) < 4294967296 := by
          rw [Nat.div_lt_iff_lt_mul (Nat.two_pow_pos _), Nat.mul_comm 4294967296]
          exact Nat.mul_lt_mul'' (Dy.val_lt ha.2) (Nat.pow_lt_pow_right (by decide) (by omega : n % 32 < 32))
        generalize Dy.val a * 2 ^ (n % 32) / 2 ^ (32 * a.length) = y at h1 ⊢
        rw [wrap_u32]; omega
      simp only [Int.toNat_natCast, List.length_replicate, List.length_append, Dy.dgN_length, List.length_cons, List.length_nil]
      rw [e3]
      refine ⟨⟨by omega, by omega, by omega⟩, ⟨ha, hal, by omega, by omega, by omega, by simp, by simp⟩, ⟨by omega, by omega⟩, ?_⟩
      rw [Dy.val_snoc, Dy.val_append, Dy.val_replicate, Dy.val_dgN]
      simp only [List.length_append, List.length_replicate, Dy.dgN_length]
      rw [Nat.zero_add, Nat.mul_add, Nat.pow_add, Nat.mul_assoc, ← Nat.mul_add, Nat.mod_add_div, Nat.mul_comm, Nat.mul_assoc, ← Nat.pow_add, show n % 32 + 32 * (n / 32) = n by omega]
  · cases h

theorem ok_tab6 : PhiOk Tryd.prog Inv (look tab6) :=
  look_cons (look_cons (look_cons (look_cons (look_cons (look_cons (look_cons (look_cons ok_tab5 ok_ref_Up) ok_ref_Bit) ok_ref_Len) ok_ref_Sub) ok_ref_Add) ok_ref_Cmp) ok_ref_Same) ok_ref_Of

theorem loop_ref_Low : LoopOk Tryd.prog (look tab6) lamRLow 1 31 keepRLow (bodyN Tryd.f20 0) lsRLow := by
  intro vals r h K hK
  unfold lsRLow at h
  split at h
  · cases h
    rename_i a n
    simp only [evLR] at hK
    obtain ⟨⟨ha, hc, ha1, rfl⟩, hK⟩ := hK
    by_cases hv : Dy.val a = 0
    · have : a = [] := by rw [← hc, hv, Dy.dg_zero]
      subst this
      refine iterN_last ?_
      rw [vc_ref_Low_1, wrap_i64 (by simp) (by simp)]
      refine cond_f rfl ?_
      rw [hv, Dy.tz_zero] at hK
      exact hK
    · have hlt : Dy.tz (Dy.val a) < 32 * a.length := Nat.lt_of_lt_of_le (Dy.tz_lt_bl hv) (Dy.bl_le.2 (Dy.val_lt ha.2))
      have key : ∀ u n : Nat, Dy.tz (Dy.val a) = u + n → (n % 32 = 0 ∨ a.getD (n / 32) 0 ≠ 0) → ∃ m, iterN Tryd.prog (look tab6) lamRLow 1 31 keepRLow (bodyN Tryd.f20 0) m [.dig [1, 2] a, .num .i64 n] K := by
        intro u
        induction u using Nat.strongRecOn with
        | _ u ih =>
          intro n hn hd
          have hbit := Dy.tz_bit hv (show n ≤ Dy.tz (Dy.val a) by omega)
          have e1 : IntKind.i64.wrap ((n : Int).tdiv 32) = ((n / 32 : Nat) : Int) := by
            rw [Int.tdiv_eq_ediv_of_nonneg (by omega), wrap_i64 (by omega) (by omega)]; omega
          have e2 : IntKind.i64.wrap (32 * (a.length : Int)) = ((32 * a.length : Nat) : Int) := by rw [wrap_i64 (by omega) (by omega)]; omega
          have e3 : (if (n : Int) < 0 then (0 : Nat) else Dy.val a / 2 ^ (n : Int).toNat % 2) = if n = Dy.tz (Dy.val a) then 1 else 0 := by rw [if_neg (by omega), Int.toNat_natCast, hbit]
          by_cases c : n = Dy.tz (Dy.val a)
          · refine iterN_last ?_
            rw [vc_ref_Low_1, e1, e2, e3, if_pos c]
            refine cond_t (decide_eq_true (by omega)) (cond_f rfl ?_)
            rw [← c] at hK
            exact hK
          · by_cases c2 : a.getD (n / 32) 0 = 0
            · have h32 : n % 32 = 0 := hd.resolve_right (fun h => h c2)
              have hge : n + 32 ≤ Dy.tz (Dy.val a) := by
                refine (Dy.dvd_iff_le_tz hv _).1 ?_
                have q1 : Dy.val a % 2 ^ n = 0 := (Dy.dvd_iff_le_tz hv _).2 (by omega)
                have q2 := Dy.getD_val ha.2 (n / 32)
                rw [show 32 * (n / 32) = n by omega, c2] at q2
                rw [Nat.pow_add, Nat.mod_mul, q1, ← q2]
                simp
              obtain ⟨m, hm⟩ := ih (u - 32) (by omega) (n + 32) (by omega) (.inl (by omega))
              refine iterN_next m ?_
              rw [vc_ref_Low_1, e1, e2, e3, if_neg c]
              refine cond_t (decide_eq_true (by omega)) (cond_t rfl ⟨by omega, ?_⟩)
              rw [Int.toNat_natCast, c2, wrap_i64 (by omega) (by omega)]
              exact cond_t rfl hm
            · have hnext : (n + 1) % 32 = 0 ∨ a.getD ((n + 1) / 32) 0 ≠ 0 := by
                by_cases e : (n + 1) % 32 = 0
                · exact .inl e
                · rw [show (n + 1) / 32 = n / 32 by omega]; exact .inr c2
              obtain ⟨m, hm⟩ := ih (u - 1) (by omega) (n + 1) (by omega) hnext
              refine iterN_next m ?_
              rw [vc_ref_Low_1, e1, e2, e3, if_neg c]
              refine cond_t (decide_eq_true (by omega)) (cond_t rfl ⟨by omega, ?_⟩)
              rw [Int.toNat_natCast, wrap_i64 (n := (n : Int) + 1) (by omega) (by omega)]
              exact cond_f (decide_eq_false (by omega)) hm
      exact key (Dy.tz (Dy.val a)) 0 (by omega) (.inl rfl)
  · cases h

theorem ok_ref_Low (args : List AV) (s : Spec) (h : rLow args = some s) (hp : andO s.pre True) : Contract Tryd.prog Inv 20 args s.res := by
  unfold rLow at h
  split at h
  · cases h
    rename_i a
    obtain ⟨⟨hc, ha1⟩, -⟩ := hp
    refine contract_at false 31 lamRLow ok_tab6 Tryd.func20 (by kernel_rfl) rfl (loops1 (by kernel_rfl) (by kernel_rfl) loop_ref_Low) fun hok => ?_
    have ha := (oks1_dig hok).1
    rw [vc_ref_Low, wrap_i64 (by omega) (by omega)]
    refine ⟨⟨ha, hc, ha1, rfl⟩, cond_i (fun h => ?_) (fun h => rfl)⟩
    have h := of_decide_eq_true h
    by_cases hv : Dy.val a = 0
    · rw [hv, Dy.tz_zero]; rfl
    · have hlt : Dy.tz (Dy.val a) < 32 * a.length := Nat.lt_of_lt_of_le (Dy.tz_lt_bl hv) (Dy.bl_le.2 (Dy.val_lt ha.2))
      omega
  · cases h

theorem ok_tab7 : PhiOk Tryd.prog Inv (look tab7) := look_cons ok_tab6 ok_ref_Low

theorem loop_ref_Down : LoopOk Tryd.prog (look tab7) lamRDown 2 63 keepRDown (bodyN Tryd.f63 0) lsRDown := by
  intro vals r h K hK
  unfold lsRDown at h
  split at h
  · cases h
    rename_i a o s i l
    simp only [evLR] at hK
    obtain ⟨⟨ha, hs0, hs1, rfl, hi0, hi1, ha1⟩, hK⟩ := hK
    obtain ⟨s, rfl⟩ := Int.eq_ofNat_of_zero_le hs0
    obtain ⟨i, rfl⟩ := Int.eq_ofNat_of_zero_le hi0
    simp only [Int.toNat_natCast] at hK
    have hs : s < 32 := by omega
    have key : ∀ (u j : Nat), a.length = u + (i + j) →
        ∃ m, iterN Tryd.prog (look tab7) lamRDown 2 63 keepRDown (bodyN Tryd.f63 0) m [.dig [1, 2, 3] a, .grown 63 (Dy.dgN j (Dy.val (a.drop i) / 2 ^ s)), .num .i64 s, .num .i64 ((i + j : Nat) : Int), .bool l] K := by
      intro u
      induction u with
      | zero =>
        intro j hj
        refine iterN_last ?_
        rw [vc_ref_Down_1]
        refine cond_f (decide_eq_false (by omega)) ?_
        rw [show j = a.length - i by omega, show i + (a.length - i) = a.length by omega]
        exact hK
      | succ u ih =>
        intro j hj
        have hdig := down_digit (Dy.digs_drop ha.2 i) hs j
        rw [show ∀ k, (a.drop i).getD k 0 = a.getD (i + k) 0 from fun k => by simp [List.getD_eq_getElem?_getD, List.getElem?_drop], show ∀ k, (a.drop i).getD k 0 = a.getD (i + k) 0 from fun k => by simp [List.getD_eq_getElem?_getD, List.getElem?_drop]] at hdig
        have hx := Dy.digs_getD ha.2 (i + j)
        have hy := Dy.digs_getD ha.2 (i + (j + 1))
        have hd : Dy.val (a.drop i) / 2 ^ s / 2 ^ (32 * j) % 4294967296 < 4294967296 := Nat.mod_lt _ (by decide)
        obtain ⟨m, hm⟩ := ih (j + 1) (by omega)
        rw [Dy.dgN_succ] at hm
        refine iterN_next m ?_
        rw [vc_ref_Down_1]
        rw [hdig] at hm hd
        have hw : IntKind.i64.wrap (((i + j : Nat) : Int) + 1) = ((i + (j + 1) : Nat) : Int) := by rw [wrap_i64 (by omega) (by omega)]; omega
        rw [hw]
        simp only [Int.toNat_natCast, List.length_cons, List.length_nil, Dy.dgN_length]
        generalize hxx : a.getD (i + j) 0 = x at hx hm hd ⊢
        generalize hyy : a.getD (i + (j + 1)) 0 = y at hy hm hd ⊢
        have q1 : ∀ z : Nat, z < 4294967296 → IntKind.u64.wrap (z : Int) = (z : Int) := fun z hz => by rw [wrap_u64]; omega
        have hxs : x / 2 ^ s ≤ x := Nat.div_le_self _ _
        rw [q1 x hx, Nat.min_eq_left (by omega : s ≤ 64), fdiv_pow (by omega)]
        simp only [Int.toNat_natCast]
        have hlo : x / 2 ^ s < 2 ^ (32 - s) := by
          rw [Nat.div_lt_iff_lt_mul (Nat.two_pow_pos s), ← Nat.pow_add, show 32 - s + s = 32 by omega]; exact hx
        generalize x / 2 ^ s = w at hxs hlo hd hm ⊢
        refine cond_t (decide_eq_true (by omega)) ⟨by omega, by omega, cond_i (fun h => ?_) (fun h => ?_)⟩
        · have h := of_decide_eq_true h
          have e4 : IntKind.i64.wrap ((32 : Int) - (s : Int)) = ((32 - s : Nat) : Int) := by rw [wrap_i64 (by omega) (by omega)]; omega
          rw [e4]
          simp only [Int.toNat_natCast]
          rw [Nat.min_eq_left (by omega : 32 - s ≤ 64)]
          have hpow : ((2 : Int) ^ (32 - s)) = ((2 ^ (32 - s) : Nat) : Int) := by simp
          have hp32 : 2 ^ (32 - s) ≤ 2 ^ 32 := Nat.pow_le_pow_right (by decide) (by omega)
          have hy32 : y * 2 ^ (32 - s) ≤ 4294967295 * 2 ^ 32 := Nat.mul_le_mul (by omega) hp32
          have e5 : IntKind.u64.wrap (IntKind.u64.wrap (y : Int) * 2 ^ (32 - s)) = ((y * 2 ^ (32 - s) : Nat) : Int) := by
            rw [hpow, q1 y hy, ← Int.natCast_mul, wrap_u64]
            generalize y * 2 ^ (32 - s) = v at hy32 ⊢
            omega
          rw [e5, w64_or (by omega) (by omega) (by omega) (by omega)]
          simp only [Int.toNat_natCast]
          have e7 : w ||| y * 2 ^ (32 - s) = y * 2 ^ (32 - s) + w := by rw [Nat.or_comm, or_low hlo]
          have e8 : (IntKind.u32.wrap ((y * 2 ^ (32 - s) + w : Nat) : Int)).toNat = w + y * 2 ^ (32 - s) % 4294967296 := by
            rw [wrap_u32]
            generalize y * 2 ^ (32 - s) = v at hy32 hd ⊢
            omega
          rw [e7, e8]
          exact ⟨by omega, by omega, ⟨by omega, by omega⟩, hm⟩
        · have h := of_decide_eq_false h
          have hb0 : y = 0 := by rw [← hyy, List.getD_eq_getElem?_getD, List.getElem?_eq_none (by omega)]; rfl
          subst hb0
          have e8 : (IntKind.u32.wrap (w : Int)).toNat = w := by
            rw [wrap_u32]
            omega
          rw [Nat.zero_mul, Nat.zero_mod, Nat.add_zero] at hm
          rw [e8]
          exact ⟨⟨by omega, by omega⟩, hm⟩
    exact key (a.length - i) 0 (by omega)
  · cases h

theorem ok_ref_Down (args : List AV) (s : Spec) (h : rDown args = some s) (hp : andO s.pre True) : Contract Tryd.prog Inv 63 args s.res := by
  unfold rDown at h
  split at h
  · cases h
    rename_i a n
    obtain ⟨⟨hc, hn, ha1⟩, -⟩ := hp
    refine contract_at false 63 lamRDown ok_tab7 Tryd.func63 (by kernel_rfl) rfl (loops1 (by kernel_rfl) (by kernel_rfl) loop_ref_Down) fun hok => ?_
    have ha := (oks1_dig hok).1
    have hr := range_i64 (oks1_num (oks1_dig hok).2).1
    obtain ⟨n, rfl⟩ := Int.eq_ofNat_of_zero_le hn
    rw [vc_ref_Down]
    have e1 : IntKind.i64.wrap ((n : Int).tdiv 32) = ((n / 32 : Nat) : Int) := by
      rw [Int.tdiv_eq_ediv_of_nonneg (by omega), wrap_i64 (by omega) (by omega)]; omega
    have e2 : (n : Int).tmod 32 = ((n % 32 : Nat) : Int) := by rw [Int.tmod_eq_emod_of_nonneg (by omega)]; omega
    rw [e1, e2]
    simp only [Int.toNat_natCast]
    have hpow : 2 ^ (32 * (n / 32)) * 2 ^ (n % 32) = 2 ^ n := by rw [← Nat.pow_add, show 32 * (n / 32) + n % 32 = n by omega]
    have hbl := (Dy.bl_le (n := Dy.val a) (k := 32 * a.length)).2 (Dy.val_lt ha.2)
    refine ⟨⟨hc, ha1⟩, cond_i (fun h => ?_) (fun h => ?_)⟩
    · have h := of_decide_eq_true h
      have h0 : Dy.val a / 2 ^ n = 0 := Nat.div_eq_of_lt (Dy.bl_le.1 (by omega))
      rw [h0, Dy.dg_zero]
      have e3 : decide ((a.length : Int) > 0) = decide (Dy.val a ≠ 0 ∧ (Dy.tz (Dy.val a) : Int) < (n : Int)) := by
        by_cases hv : Dy.val a = 0
        · have : a = [] := by rw [← hc, hv, Dy.dg_zero]
          subst this
          simp [Dy.val]
        · have hz := Dy.tz_lt_bl hv
          have hl : a ≠ [] := fun e => hv (by rw [e]; rfl)
          have hl := List.length_pos_iff.2 hl
          rw [decide_eq_true (by omega), decide_eq_true ⟨hv, by omega⟩]
      rw [e3]
    · have h := of_decide_eq_false h
      have hv : Dy.val a ≠ 0 := fun e => h (by rw [e, Dy.bl_zero]; omega)
      refine ⟨⟨hc, ha1⟩, ⟨ha, by omega, by omega, by simp, by omega, by omega, ha1⟩, ?_⟩
      have hlt : Dy.val (a.drop (n / 32)) / 2 ^ (n % 32) < 2 ^ (32 * (a.length - n / 32)) := by
        have := Dy.val_lt (Dy.digs_drop ha.2 (n / 32))
        rw [List.length_drop] at this
        exact Nat.lt_of_le_of_lt (Nat.div_le_self _ _) this
      rw [Dy.dg_val_dgN hlt, Dy.val_drop ha.2, Nat.div_div_eq_div_mul, hpow]
      have e3 : decide ((n : Int) > (Dy.tz (Dy.val a) : Int)) = decide (Dy.val a ≠ 0 ∧ (Dy.tz (Dy.val a) : Int) < (n : Int)) := by simp [hv]
      rw [e3]
  · cases h

theorem ok_tab8 : PhiOk Tryd.prog Inv (look tab8) := look_cons ok_tab7 ok_ref_Down

end Go.AI
