/- Values: arithmetic, structs, slices of what is there. -/
import Derived.Test.YtnhbdcnnanfacaaDoorAIop3
namespace Go.AI
open Go Go.RowKit
set_option linter.unusedVariables false
set_option linter.unusedSimpArgs false

section
variable {P : Program} {na : Nat} {β0 : Nat → Nat → Prop} {w0 : World} {σ : St} {β : Nat → Nat → Prop} {a : Act} {w : World} {o : Oper}

theorem sound_move (hR : R na β0 w0 σ β a w) {bx : Nat → Box} {x : Operand} (ho : o.op = .move x ∨ o.op = .assign x) {Φ : Nat → List AV → Option Spec} {dr : Bool} {n : Nat} {e : Eff}
    (he : eff P Φ dr σ.eval bx n o = some e) : StepOk P na β0 w0 (σ.apply o.dst e) o a w := by
  unfold eff at he
  rcases ho with ho | ho <;> rw [ho] at he <;> cases he <;>
    exact StepOk.pure hR (by simp only [execOp, ho]; rfl) (hR.V_eval x)

theorem V_cond {C : Ctx} (t : Bool) {x y : AV} {u v : Value} (hx : V C x u) (hy : V C y v) : V C (cond t x y) (if t = true then u else v) := by
  cases t
  · exact hy
  · exact hx

theorem pickEff_V {C : Ctx} (t : Bool) {x y : AV} {u v : Value} (hx : V C x u) (hy : V C y v) : V C (pickEff t x y) (if t = true then u else v) := by
  have h := V_cond t hx hy
  have key : pickEff t x y = cond t x y := by
    unfold pickEff
    split
    · cases t <;> rfl
    · split
      · rename_i e; subst e; cases t <;> rfl
      · rfl
    · rfl
  rw [key]; exact h

theorem sound_pick (hR : R na β0 w0 σ β a w) {bx : Nat → Box} {c x y : Operand} (ho : o.op = .pick c x y) {Φ : Nat → List AV → Option Spec} {dr : Bool} {n : Nat} {e : Eff}
    (he : eff P Φ dr σ.eval bx n o = some e) : StepOk P na β0 w0 (σ.apply o.dst e) o a w := by
  have hV := hR.V_eval c
  unfold eff at he
  rw [ho] at he
  simp only at he
  split at he
  · rename_i t hc
    cases he
    rw [hc] at hV
    have e := hV.bool_inv
    exact StepOk.pure hR (by simp only [execOp, ho, e, asBool, Sem.run_bind, Sem.run_pure, Result.andThen_ok]) (pickEff_V t (hR.V_eval x) (hR.V_eval y))
  · cases he

theorem places_eq : ∀ (fs : List Field) {l : List (Nat × Nat)}, places P fs = some l → fs.mapM (fun f => (P.info? f.type).map fun i => (f.offset, i.size)) = some l
  | [], l, h => by simp [places] at h; subst h; rfl
  | f :: fs, l, h => by
    unfold places at h
    split at h
    · rename_i s r h1 h2
      cases h
      have ih := places_eq fs h2
      unfold size? at h1
      cases hi : P.info? f.type with
      | none => rw [hi] at h1; simp at h1
      | some i =>
        rw [hi] at h1
        simp at h1
        rw [List.mapM_cons, hi, ih]
        simp [h1]
    · cases h

theorem foldl_put (off : Nat) : ∀ (us : List Value) (k : Nat) (cells : Array Value), off + k + us.length ≤ cells.size →
    ((us.zipIdx k).foldl (fun cs (x : Value × Nat) => cs.setIfInBounds (off + x.2) x.1) cells).toList = cells.toList.take (off + k) ++ us ++ cells.toList.drop (off + k + us.length)
  | [], k, cells, h => by simp
  | u :: us, k, cells, h => by
    rw [List.zipIdx_cons, List.foldl_cons, foldl_put off us (k + 1) _ (by simp at h ⊢; omega)]
    have hlt : off + k < cells.size := by simp at h; omega
    simp only [Array.toList_setIfInBounds, List.length_cons]
    have e1 : (cells.toList.set (off + k) u).take (off + (k + 1)) = cells.toList.take (off + k) ++ [u] := by
      rw [show off + (k + 1) = off + k + 1 by omega, List.take_succ_eq_append_getElem (by simpa using hlt)]
      simp [List.take_set_of_le (Nat.le_refl _)]
    have e2 : (cells.toList.set (off + k) u).drop (off + (k + 1) + us.length) = cells.toList.drop (off + k + (us.length + 1)) := by
      rw [List.drop_set_of_lt (by omega)]
      congr 1; omega
    rw [e1, e2]
    simp

theorem fill_vs {C : Ctx} (place : Nat → Option (Nat × Nat)) : ∀ (ps : List (Nat × AV)) (qs : List (Nat × Value)) {cs cs' : List AV} {vs : Array Value},
    ps.map (·.1) = qs.map (·.1) → (∀ (i : Nat) (p : Nat × AV) (q : Nat × Value), ps[i]? = some p → qs[i]? = some q → V C p.2 q.2) → Vs C cs vs.toList → fillA place cs ps = some cs' →
    ∃ vs' : Array Value, Instr.fill place vs qs = some vs' ∧ Vs C cs' vs'.toList
  | [], [], cs, cs', vs, _, _, hv, h => by
    simp [fillA] at h; subst h
    exact ⟨vs, rfl, hv⟩
  | (i, x) :: ps, (j, u) :: qs, cs, cs', vs, hk, hps, hv, h => by
    simp at hk
    obtain ⟨rfl, hk⟩ := hk
    unfold fillA at h
    split at h
    · rename_i off size vc hpl hvc
      split at h
      · rename_i hcond
        obtain ⟨h1, h2⟩ := hcond
        have hx : V C x u := hps 0 (i, x) (i, u) (by simp) (by simp)
        have hcv := cells_vs hx hvc
        have hl1 := hv.length
        have hl2 := hcv.length
        simp at hl1 hl2
        have hfo := foldl_put off u.cells.toList 0 vs (by simp; omega)
        simp only [Nat.add_zero] at hfo
        have hov := overwrite_vs hv hcv off
        obtain ⟨vs', h3, h4⟩ := fill_vs place ps qs (vs := (u.cells.toList.zipIdx.foldl (fun cs (x : Value × Nat) => cs.setIfInBounds (off + x.2) x.1) vs)) hk (fun k p q hp hq => hps (k + 1) p q (by simpa using hp) (by simpa using hq)) (by rw [hfo]; exact hov) h
        refine ⟨vs', ?_, h4⟩
        unfold Instr.fill
        simp only [hpl]
        have hc : ¬ (u.cells.size ≠ size ∨ off + u.cells.size > vs.size) := by omega
        have hz : u.cells.zipIdx.foldl (fun cs (x : Value × Nat) => cs.setIfInBounds (off + x.2) x.1) vs = u.cells.toList.zipIdx.foldl (fun cs (x : Value × Nat) => cs.setIfInBounds (off + x.2) x.1) vs := by
          rw [← Array.foldl_toList, Array.toList_zipIdx]
        rw [← hz] at h3
        simp only [ne_eq, Bool.or_eq_true, decide_eq_true_eq] at hc ⊢
        rw [if_neg hc]
        exact h3
      · cases h
    · cases h
  | [], _ :: _, _, _, _, hk, _, _, _ => by simp at hk
  | _ :: _, [], _, _, _, hk, _, _, _ => by simp at hk

theorem parts_V (hR : R na β0 w0 σ β a w) (parts : Array (Nat × Operand)) : (parts.toList.map fun (x : Nat × Operand) => (x.1, σ.eval x.2)).map (·.1) = (parts.map fun (x : Nat × Operand) => (x.1, a.eval x.2)).toList.map (·.1) ∧
    ∀ (i : Nat) (p : Nat × AV) (q : Nat × Value), (parts.toList.map fun (x : Nat × Operand) => (x.1, σ.eval x.2))[i]? = some p → (parts.map fun (x : Nat × Operand) => (x.1, a.eval x.2)).toList[i]? = some q → V ⟨σ.box, β, w⟩ p.2 q.2 := by
  refine ⟨by simp, fun i p q hp hq => ?_⟩
  simp at hp hq
  obtain ⟨x, y, hxy, rfl⟩ := hp
  obtain ⟨x', y', hxy', rfl⟩ := hq
  rw [hxy] at hxy'
  cases hxy'
  exact hR.V_eval y

theorem sound_build (hR : R na β0 w0 σ β a w) {bx : Nat → Box} {t : TypeId} {parts : Array (Nat × Operand)} (ho : o.op = .build t parts) {Φ : Nat → List AV → Option Spec} {dr : Bool} {n : Nat} {e : Eff}
    (he : eff P Φ dr σ.eval bx n o = some e) : StepOk P na β0 w0 (σ.apply o.dst e) o a w := by
  unfold eff at he
  rw [ho] at he
  simp only at he
  split at he
  · rename_i pl zs hpl hzs
    split at he
    · rename_i cs hcs
      cases he
      obtain ⟨hk, hps⟩ := parts_V hR parts
      have hz' := hzs
      unfold zeroCells at hzs
      split at hzs
      · rename_i it hi
        split at hzs
        · rename_i z hz
          have hzv := cells_vs (V_ofValue ⟨σ.box, β, w⟩ z) hzs
          obtain ⟨vs', h1, h2⟩ := fill_vs (C := ⟨σ.box, β, w⟩) pl _ _ hk hps hzv hcs
          refine StepOk.pure hR (v := .agg vs') ?_ (by simp only [V]; exact ⟨vs'.toList, by simp, h2⟩)
          have hb : P.built t (parts.map fun (x : Nat × Operand) => (x.1, a.eval x.2)).toList = some vs' := by
            unfold Program.built
            unfold placeOf at hpl
            rw [hi]
            split at hpl
            · rename_i fs hu
              split at hpl
              · rename_i l hl
                cases hpl
                rw [hu]
                simp only [hz, places_eq _ hl]
                simpa using h1
              · cases hpl
            · rename_i k el hu
              split at hpl
              · rename_i s hs
                cases hpl
                rw [hu]
                unfold size? at hs
                cases hie : P.info? el with
                | none => rw [hie] at hs; simp at hs
                | some ie =>
                  rw [hie] at hs; simp at hs; subst hs
                  simp only [hz, hie]
                  exact h1
              · cases hpl
            · cases hpl
          simp only [execOp, ho, Sem.run_bind, run_build w t _ _ hb, Result.andThen_ok, Sem.run_pure]
        · cases hzs
      · cases hzs
    · cases he
  · cases he

theorem tmod_range (k : IntKind) {x y : Int} (h : k.min ≤ x ∧ x ≤ k.max) (h' : k.min ≤ y ∧ y ≤ k.max) : k.min ≤ x.tmod y ∧ x.tmod y ≤ k.max := by
  have h0 : k.min ≤ 0 ∧ 0 ≤ k.max := by cases k <;> simp [IntKind.min, IntKind.max, IntKind.signed, IntKind.bits]
  have hn := Int.natAbs_tmod x y
  have hle := Nat.mod_le x.natAbs y.natAbs
  rcases Int.le_total 0 x with hx | hx
  · have h1 := Int.tmod_nonneg y hx
    omega
  · have h1 : (-x).tmod y = -(x.tmod y) := Int.neg_tmod x y
    have h2 := Int.tmod_nonneg (a := -x) y (by omega)
    omega

theorem fdiv_range (k : IntKind) {x : Int} (h : k.min ≤ x ∧ x ≤ k.max) (n : Nat) : k.min ≤ x.fdiv (2 ^ n) ∧ x.fdiv (2 ^ n) ≤ k.max := by
  have h0 : k.min ≤ 0 ∧ 0 ≤ k.max := by cases k <;> simp [IntKind.min, IntKind.max, IntKind.signed, IntKind.bits]
  have hp : (0 : Int) < 2 ^ n := Int.pow_pos (by omega)
  rw [Int.fdiv_eq_ediv_of_nonneg _ (by omega)]
  have h1 := Int.ediv_mul_le x (show (2 : Int) ^ n ≠ 0 by omega)
  have h2 := Int.lt_ediv_add_one_mul_self x hp
  rcases Int.le_total 0 x with hx | hx
  · have h3 : 0 ≤ x / 2 ^ n := Int.ediv_nonneg hx (by omega)
    have h4 : x / 2 ^ n ≤ x := Int.ediv_le_self _ hx
    omega
  · have h3 : x / 2 ^ n ≤ 0 := by
      have := Int.ediv_le_ediv hp hx
      simpa using this
    have h4 : x ≤ x / 2 ^ n := by
      rw [Int.le_ediv_iff_mul_le hp]
      have : x * 1 ≥ x * 2 ^ n := Int.mul_le_mul_of_nonpos_left hx (by omega)
      omega
    omega

theorem binEff_V {C : Ctx} {op : BinOp} {t : TypeId} {xo yo : Operand} {x y c : AV} {u v : Value} {p : Option Prop} (hx : V C x u) (hy : V C y v) (hyo : ∀ k n, yo = .const (.int k n) → v = .int k n)
    (h : binEff op (isBoolT P t) yo x y = some (p, c)) (hp : andO p True) (w : World) : ∃ r, ((do eqGuard op t xo yo u v; binOp op t u v : Sem Value)).run P w = .ok r w ∧ V C c r := by
  unfold binEff at h
  split at h
  · rename_i k1 m k2 n
    have ex := hx.num_inv
    have ey := hy.num_inv
    have rx := hx
    simp only [V] at rx
    have ry := hy
    simp only [V] at ry
    subst ex; subst ey
    have hnn : surelyNonneg yo = true → 0 ≤ n := by
      intro hs
      unfold surelyNonneg at hs
      split at hs
      · have := hyo _ _ rfl; cases this; simpa using hs
      · cases hs
    have hnz : surelyNonzero yo = true → n ≠ 0 := by
      intro hs
      unfold surelyNonzero at hs
      split at hs
      · have := hyo _ _ rfl; cases this; simpa using hs
      · cases hs
    cases op <;> simp only at h
    case shl =>
      cases h
      have h0 : 0 ≤ n := by
        by_cases hs : surelyNonneg yo = true
        · exact hnn hs
        · rw [if_neg hs] at hp; exact hp.1
      exact ⟨_, by simp only [eqGuard_at_int, Sem.run_bind, Sem.run_pure, Result.andThen_ok, binOp_shl, Op.shift, if_neg (show ¬ n < 0 by omega)]; rfl, by simp only [V]; exact ⟨trivial, wrapOk _ _⟩⟩
    case shr =>
      cases h
      have h0 : 0 ≤ n := by
        by_cases hs : surelyNonneg yo = true
        · exact hnn hs
        · rw [if_neg hs] at hp; exact hp.1
      exact ⟨_, by simp only [eqGuard_at_int, Sem.run_bind, Sem.run_pure, Result.andThen_ok, binOp_shr, Op.shift, if_neg (show ¬ n < 0 by omega)]; rfl, by simp only [V]; exact ⟨trivial, fdiv_range _ rx.2 _⟩⟩
    case quo =>
      split at h
      · rename_i e; subst e
        cases h
        have h0 : n ≠ 0 := by
          by_cases hs : surelyNonzero yo = true
          · exact hnz hs
          · rw [if_neg hs] at hp; exact hp.1
        exact ⟨_, by simp only [eqGuard_at_int, Sem.run_bind, Sem.run_pure, Result.andThen_ok, binOp_quo, Op.intDiv, if_neg h0]; rfl, by simp only [V]; exact ⟨trivial, wrapOk _ _⟩⟩
      · cases h
    case rem =>
      split at h
      · rename_i e; subst e
        cases h
        have h0 : n ≠ 0 := by
          by_cases hs : surelyNonzero yo = true
          · exact hnz hs
          · rw [if_neg hs] at hp; exact hp.1
        exact ⟨_, by simp only [eqGuard_at_int, Sem.run_bind, Sem.run_pure, Result.andThen_ok, binOp_rem, Op.intDiv, if_neg h0]; rfl, by simp only [V]; exact ⟨trivial, tmod_range _ rx.2 ry.2⟩⟩
      · cases h
    all_goals
      split at h
      · rename_i e; subst e
        try simp only [bitsI] at h
        cases h
        first
          | exact ⟨_, by simp only [eqGuard_at_int, Sem.run_bind, Sem.run_pure, Result.andThen_ok, binOp_add, binOp_sub, binOp_mul, Op.intArith]; rfl, by simp only [V]; exact ⟨trivial, wrapOk _ _⟩⟩
          | exact ⟨_, by simp only [eqGuard_at_int, Sem.run_bind, Sem.run_pure, Result.andThen_ok, binOp_eql, binOp_neq, binOp_lss, binOp_leq, binOp_gtr, binOp_geq]; rfl, by simp only [V]⟩
          | exact ⟨_, by simp only [eqGuard_at_int, Sem.run_bind, Sem.run_pure, Result.andThen_ok, binOp_and, binOp_or, binOp_xor, binOp_andNot, Op.intBits]; rfl, by simp only [V]; exact ⟨trivial, wrapOk _ _⟩⟩
      · cases h
  · rename_i b1 b2
    have ex := hx.bool_inv
    have ey := hy.bool_inv
    subst ex; subst ey
    have hbt : ∀ (q : Bool), isBoolT P t = true → (Op.equal t (.bool b1) (.bool b2)).run P w = .ok (b1 == b2) w := by
      intro _ hb
      unfold isBoolT at hb
      split at hb
      · rename_i hu
        unfold Op.equal
        rw [show Op.maxDepth = 9999 + 1 from rfl]
        unfold Op.equalIn
        simp [run_underlying hu]
      · cases hb
    split at h
    · rename_i hb
      cases h
      exact ⟨_, by simp only [eqGuard_at_bool, Sem.run_bind, Sem.run_pure, Result.andThen_ok, binOp, hbt true hb]; rfl, by simp only [V]⟩
    · rename_i hb
      cases h
      exact ⟨_, by simp only [eqGuard_at_bool, Sem.run_bind, Sem.run_pure, Result.andThen_ok, binOp, hbt true hb]; rfl, by simp only [V]⟩
    · cases h
  · cases h

end
end Go.AI
