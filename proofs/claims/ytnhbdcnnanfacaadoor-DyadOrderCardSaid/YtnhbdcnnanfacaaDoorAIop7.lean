/- Slices built at once; len, max, min, append. -/
import Derived.Test.YtnhbdcnnanfacaaDoorAIop6
namespace Go.AI
open Go Go.RowKit
set_option linter.unusedVariables false
set_option linter.unusedSimpArgs false

section
variable {P : Program} {na : Nat} {β0 : Nat → Nat → Prop} {w0 : World} {σ : St} {β : Nat → Nat → Prop} {a : Act} {w : World} {o : Oper} {bx : Nat → Box} {Φ : Nat → List AV → Option Spec} {dr : Bool} {n : Nat} {e : Eff}

/-- a new block that nobody but one value knows -/
theorem R.newArena (h : R na β0 w0 σ β a w) (hn : Free na σ n) (cs : Array Value) (T : TypeId) {w' : World} (hw' : w' = w.alloc (.cells cs T) ∨ w' = w.drew.alloc (.cells cs T)) :
    R na β0 w0 { σ with boxes := σ.boxes.set n .arena } (setβ β n (· = w.heap.size)) a w' ∧ Le ⟨σ.box, β, w⟩ ⟨St.box { σ with boxes := σ.boxes.set n .arena }, setβ β n (· = w.heap.size), w'⟩ ∧
    Ctx.born ⟨St.box { σ with boxes := σ.boxes.set n .arena }, setβ β n (· = w.heap.size), w'⟩ [n] ∧
    Ctx.inP ⟨St.box { σ with boxes := σ.boxes.set n .arena }, setβ β n (· = w.heap.size), w'⟩ [n] w.heap.size ∧ w'.heap[w.heap.size]? = some (.cells cs T (0, 0)) := by
  have hg : Grow w w' := by
    rcases hw' with rfl | rfl
    · exact Grow.alloc1 w cs T
    · exact ((Grow.refl w).drew).alloc cs T
  have hsz : w'.heap.size = w.heap.size + 1 := by rcases hw' with rfl | rfl <;> simp
  have hh : w'.heap[w.heap.size]? = some (.cells cs T (0, 0)) := by
    rcases hw' with rfl | rfl
    · exact heap_alloc_new w _
    · exact heap_alloc_new w.drew _
  refine ⟨h.newId hn.na hn.len hn.un .arena (· = w.heap.size) hg (by simp) (fun x hx => by subst hx; omega) trivial, Le.newId h hn.len hn.un .arena _ hg (by simp), fun i hi => ?_, ⟨n, by simp, (setβ_eq _ _ _ _).2 rfl⟩, hh⟩
  simp at hi
  subst hi
  show St.box _ i ≠ _
  rw [St.box_set _ _ _ _ hn.len, if_pos rfl]
  simp

theorem sound_buildSlice (hR : R na β0 w0 σ β a w) {t : TypeId} {len : Nat} {parts : Array (Nat × Operand)} (ho : o.op = .buildSlice t len parts)
    (he : eff P Φ dr σ.eval bx n o = some e) (hn : Free na σ n) : StepOk P na β0 w0 (σ.apply o.dst e) o a w := by
  unfold eff at he
  rw [ho] at he
  simp only at he
  split at he
  · cases he
  · rename_i els hels
    split at he
    · rename_i hc
      obtain ⟨hc1, hc2⟩ := hc
      have hz := inOrder_zip _ 0 hels
      have hvs : Vs ⟨σ.box, β, w⟩ els (parts.toList.map fun x => a.eval x.2) := by
        have h1 : els = parts.toList.map fun x => σ.eval x.2 := by
          have := congrArg (List.map (·.2)) hz
          simp [Function.comp_def] at this
          exact this.symm
        rw [h1]
        refine Vs.of (by simp) fun i c v h1 h2 => ?_
        simp at h1 h2
        obtain ⟨x, y, hx, rfl⟩ := h1
        obtain ⟨x', y', hy, rfl⟩ := h2
        rw [hx] at hy
        cases hy
        exact hR.V_eval y
      have hparts : (parts.map fun (x : Nat × Operand) => (x.1, a.eval x.2)).toList = ((parts.toList.map fun x => a.eval x.2).zipIdx 0).map fun x => (x.2, x.1) := by
        apply List.ext_getElem?
        intro i
        have h2 := congrArg (fun l => (l[i]?).map (·.1)) hz
        simp at h2
        simp
        cases hp : parts[i]? with
        | none => simp [hp]
        | some x =>
          simp [hp] at h2 ⊢
          cases hel : els[i]? with
          | none => rw [hel] at h2; simp at h2
          | some y => rw [hel] at h2; simp at h2; exact h2
      have hlen : (parts.toList.map fun x => a.eval x.2).length = len := by rw [← hvs.length]; exact hc1
      split at he
      · rename_i hel
        obtain ⟨el, hu⟩ : ∃ el, u32Elem P t = some el := Option.isSome_iff_exists.1 hel
        obtain ⟨u1, u2, i, u3, u4, u5, u6⟩ := u32Elem_spec hu
        split at he
        · rename_i l hl
          obtain ⟨k1, k2, k3⟩ := allDigs_spec hvs hl
          have hone : ∀ u ∈ (parts.toList.map fun x => a.eval x.2), u.cells.size = 1 := by
            intro u hu'
            obtain ⟨j, hj⟩ := List.getElem?_of_mem hu'
            have hjl : j < l.length := by rw [k1]; exact (List.getElem?_eq_some_iff.1 hj).1
            have := k3 j l[j] (by simp [hjl])
            rw [hj] at this
            cases this
            rfl
          obtain ⟨cells, r1, r2, r3⟩ := run_buildSlice u1 u3 u4 u6 hc2 (by omega) _ _ hparts hlen hone w
          have hbase : (execOp a.eval o).run P w = .ok (.value (.slice (some ⟨w.heap.size, 0, none⟩) l.length len)) (w.alloc (.cells cells el)) := by
            simp only [execOp, ho, Sem.run_bind, r1, Result.andThen_ok, Sem.run_pure]
            rw [k1, hlen]
          split at he
          · rename_i hemp
            rw [hu] at he
            cases he
            have hl0 : l = [] := by simpa using hemp
            subst hl0
            have hlen0 : len = 0 := by rw [← hlen, ← k1]; rfl
            subst hlen0
            refine StepOk.value (v := .slice (some ⟨w.heap.size, 0, none⟩) ([] : List Nat).length 0) (σ' := { σ with boxes := σ.boxes.set n (.digs el []) }) (β' := setβ β n (· = w.heap.size)) (w' := w.alloc (.cells cells el)) hbase ?_ ?_
            · refine hR.newId hn.na hn.len hn.un _ _ (Grow.alloc1 w _ _) (by simp) (fun x hx => by subst hx; simp) ⟨fun x y hx hy => ?_, ⟨by simp, fun x hx => by simp at hx⟩, fun x hx => ?_⟩
              · rw [(setβ_eq _ _ _ _).1 hx, (setβ_eq _ _ _ _).1 hy]
              · have := (setβ_eq _ _ _ _).1 hx
                subst this
                exact ⟨_, heap_alloc_new w _, by simp, fun j y hj => by simp at hj⟩
            · simp only [V]
              rw [St.box_set _ _ _ _ hn.len, if_pos rfl]
              refine ⟨by simp, ⟨_, _, _, rfl⟩, fun T l' hl => .inr ⟨w.heap.size, 0, (setβ_eq _ _ _ _).2 rfl, ?_, ?_, ?_, ?_⟩⟩
              · cases hl; rfl
              · cases hl; simp
              · simp [maxLen]
              · cases hl; exact ⟨_, heap_alloc_new w _, by rw [r2, Nat.zero_mul]⟩
          cases he
          obtain ⟨q1, q2, q3, q4, q5⟩ := hR.newArena hn cells el (.inl rfl)
          refine StepOk.value (v := .slice (some ⟨w.heap.size, 0, none⟩) l.length len) ?_ q1 ?_
          · exact hbase
          · simp only [V]
            refine ⟨q3, ⟨by omega, k2⟩, _, _, rfl, fun _ => .inr ⟨w.heap.size, 0, cells, el, (0, 0), rfl, q4, q5, by omega, fun j x hj => ?_⟩⟩
            have := r3 j _ 0 (.int .u32 (x : Int)) (k3 j x hj) rfl
            simpa using this
        · cases he
      · split at he
        · rename_i s hs
          split at he
          · rename_i hcond
            cases he
            obtain ⟨d1, d2, d3⟩ := hcond
            obtain ⟨el, i, z, u1, u3, u4, u6⟩ := elemSize_spec hs
            have hsz := allSize_spec hvs d3
            obtain ⟨cells, r1, r2, r3⟩ := run_buildSlice u1 u3 u4 u6 hc2 d2 _ _ hparts hlen hsz w
            obtain ⟨q1, q2, q3, q4, q5⟩ := hR.newArena hn cells el (.inl rfl)
            refine StepOk.value (v := .slice (some ⟨w.heap.size, 0, none⟩) els.length len) ?_ q1 ?_
            · simp only [execOp, ho, Sem.run_bind, r1, Result.andThen_ok, Sem.run_pure]
              rw [hc1]
            · simp only [V]
              refine ⟨q3, by omega, d1, _, _, _, rfl, Vs.mono q2 _ _ hvs, hsz, fun _ => .inr ⟨w.heap.size, 0, rfl, q4, by omega, fun i u j x hi hj => ?_⟩⟩
              rw [cell?_of_block q5, Nat.zero_add]
              exact r3 i u j x hi hj
          · cases he
        · cases he
    · cases he

theorem slice_elem {t : TypeId} {el : TypeId} (h : P.underlying t = some (.slice el)) : P.underlying t = some (.slice (P.elem t)) := by rw [elem_of h]; exact h

theorem exec_builtin {b : Builtin} {c : Call} (ho : o.op = .call c) (hc : c.callee = .builtin b) (a : Act) : execOp a.eval o = builtin b c.argTypes o.type (c.args.map fun | .const _ => true | _ => false) (c.args.map a.eval) := by
  simp only [execOp, ho, resolve, hc, invoke]
  rfl

theorem getD_some {xs : Array TypeId} {d : TypeDesc} (h : P.underlying (xs.getD 0 0) = some d) (hs : 0 < xs.size) : xs[0]? = some (xs.getD 0 0) := by
  simp [Array.getD, hs]

/-- the argument types of the builtin functions are as many as the arguments -/
theorem len_run {t : TypeId} {el : TypeId} (hu : P.underlying t = some (.slice el)) (base : Option Addr) (m c : Nat) (ty : TypeId) (w : World) :
    (Builtin.len_ #[t] ty #[.slice base m c]).run P w = .ok (.int .i64 m) w := run_len_slice w t ty base m c (slice_elem hu)

theorem natI64 {m : Nat} (h : m ≤ 2 ^ 45) (C : Ctx) : V C (.num .i64 (m : Int)) (.int .i64 (m : Int)) := by
  simp only [V]
  refine ⟨trivial, ?_, ?_⟩ <;> simp [IntKind.min, IntKind.max, IntKind.signed, IntKind.bits] <;> omega

theorem isSliceT_spec {t : TypeId} (h : isSliceT P t = true) : ∃ el, P.underlying t = some (.slice el) := by
  unfold isSliceT at h
  split at h
  · rename_i el hu; exact ⟨el, hu⟩
  · cases h

theorem toArray_of {α : Type} {xs : Array α} {l : List α} (h : xs.toList = l) : xs = l.toArray := by rw [← h]

theorem Vs.one {C : Ctx} {x : AV} {vs : List Value} (h : Vs C [x] vs) : ∃ v, vs = [v] ∧ V C x v := by
  cases vs with
  | nil => simp only [Vs] at h
  | cons v vs =>
    cases vs with
    | nil => simp only [Vs] at h; exact ⟨v, rfl, h.1⟩
    | cons u us => simp only [Vs] at h; exact h.2.elim

theorem Vs.two {C : Ctx} {x y : AV} {vs : List Value} (h : Vs C [x, y] vs) : ∃ u v, vs = [u, v] ∧ V C x u ∧ V C y v := by
  cases vs with
  | nil => simp only [Vs] at h
  | cons v vs =>
    simp only [Vs] at h
    obtain ⟨u, rfl, hu⟩ := Vs.one (show Vs C [y] vs from h.2)
    exact ⟨v, u, rfl, h.1, hu⟩

theorem lenEff_ok (hR : R na β0 w0 σ β a w) (hb : Sub bx σ.box) {t : TypeId} {x : AV} {v : Value} (hV : V ⟨σ.box, β, w⟩ x v) (he : lenEff P bx t x = some e) (ty : TypeId) :
    ∃ p r c, e = ⟨p, c, []⟩ ∧ (Builtin.len_ #[t] ty #[v]).run P w = .ok r w ∧ V ⟨σ.box, β, w⟩ c r := by
  unfold lenEff at he
  split at he
  · rename_i p l
    split at he
    · rename_i h
      simp only [Bool.and_eq_true] at h
      cases he
      obtain ⟨el, hu⟩ := isSliceT_spec h.1
      simp only [V] at hV
      obtain ⟨_, hok, base, cap, rfl, _⟩ := hV
      exact ⟨_, _, _, rfl, len_run hu base _ cap ty w, natI64 hok.1 _⟩
    · cases he
  · rename_i b
    split at he
    · rename_i T l hbx
      split at he
      · rename_i h
        cases he
        obtain ⟨el, hu⟩ := isSliceT_spec h
        have hσ := hb.digs hbx
        have hok := hR.boxes b
        rw [hσ] at hok
        simp only [V] at hV
        rcases hV.2.2 T l hσ with ⟨rfl, rfl⟩ | ⟨blk, cap, _, rfl, _⟩
        · exact ⟨_, _, _, rfl, len_run hu none 0 0 ty w, natI64 (m := 0) (by omega) _⟩
        · exact ⟨_, _, _, rfl, len_run hu _ _ cap ty w, natI64 hok.2.1.1 _⟩
      · cases he
    · cases he
  · split at he
    · rename_i h
      cases he
      obtain ⟨el, hu⟩ := isSliceT_spec h
      simp only [V] at hV
      subst hV
      exact ⟨_, _, _, rfl, len_run hu none 0 0 ty w, natI64 (m := 0) (by omega) _⟩
    · cases he
  · rename_i p s l
    split at he
    · rename_i h
      simp only [Bool.and_eq_true] at h
      cases he
      obtain ⟨el, hu⟩ := isSliceT_spec h.1
      simp only [V] at hV
      obtain ⟨_, hlen, _, base, cap, us, rfl, _⟩ := hV
      exact ⟨_, _, _, rfl, len_run hu base _ cap ty w, natI64 hlen _⟩
    · cases he
  · cases he

theorem max2_V {C : Ctx} {k : IntKind} {x y : Int} {u v : Value} (hx : V C (.num k x) u) (hy : V C (.num k y) v) :
    (Builtin.max_ #[] 0 #[u, v]).run P w = .ok (.int k (if y > x then y else x)) w ∧ V C (.num k (if y > x then y else x)) (.int k (if y > x then y else x)) ∧
    (Builtin.min_ #[] 0 #[u, v]).run P w = .ok (.int k (if y < x then y else x)) w ∧ V C (.num k (if y < x then y else x)) (.int k (if y < x then y else x)) := by
  simp only [V] at hx hy
  obtain ⟨rfl, h1, h2⟩ := hx
  obtain ⟨rfl, h3, h4⟩ := hy
  refine ⟨by simp [Builtin.max_, Builtin.max2], ?_, by simp [Builtin.min_, Builtin.min2], ?_⟩
  · simp only [V]; refine ⟨trivial, ?_, ?_⟩ <;> split <;> assumption
  · simp only [V]; refine ⟨trivial, ?_, ?_⟩ <;> split <;> assumption

end
end Go.AI
