/- New boxes: variables, structs laid in memory, slices made. -/
import Derived.Test.YtnhbdcnnanfacaaDoorAIop2
namespace Go.AI
open Go Go.RowKit
set_option linter.unusedVariables false
set_option linter.unusedSimpArgs false

section
variable {P : Program} {na : Nat} {β0 : Nat → Nat → Prop} {w0 : World} {σ : St} {β : Nat → Nat → Prop} {a : Act} {w : World} {o : Oper}

/-- the number n is free for a new box -/
structure Free (na : Nat) (σ : St) (n : Nat) : Prop where
  na : na < n
  len : n < σ.boxes.length
  un : σ.box n = .unborn

theorem Grow.alloc1 (w : World) (cs : Array Value) (T : TypeId) : Grow w (w.alloc (.cells cs T)) := (Grow.refl w).alloc cs T

theorem setβ_eq (β : Nat → Nat → Prop) (n g x : Nat) : setβ β n (· = g) n x ↔ x = g := by simp [setβ]

/-- a new variable -/
theorem R.newCells (h : R na β0 w0 σ β a w) {n : Nat} (hn : Free na σ n) {cs : List AV} {vs : Array Value} (hv : Vs ⟨σ.box, β, w⟩ cs vs.toList) (T : TypeId) :
    R na β0 w0 { σ with boxes := σ.boxes.set n (.cells cs) } (setβ β n (· = w.heap.size)) a (w.alloc (.cells vs T)) ∧
    V ⟨St.box { σ with boxes := σ.boxes.set n (.cells cs) }, setβ β n (· = w.heap.size), w.alloc (.cells vs T)⟩ (.addr n 0) (.pointer (some ⟨w.heap.size, 0, none⟩)) := by
  have hle := Le.newId h hn.len hn.un (.cells cs) (· = w.heap.size) (Grow.alloc1 w vs T) (by simp)
  refine ⟨h.newId hn.na hn.len hn.un (.cells cs) (· = w.heap.size) (Grow.alloc1 w vs T) (by simp) (fun x hx => by subst hx; simp) ⟨w.heap.size, fun x => setβ_eq _ _ _ _, vs, T, heap_alloc_new w _, Vs.mono hle _ _ hv⟩, ?_⟩
  simp only [V]
  rw [St.box_set _ _ _ _ hn.len, if_pos rfl]
  exact ⟨by simp, fun _ => ⟨w.heap.size, (setβ_eq _ _ _ _).2 rfl, rfl⟩⟩

theorem sound_alloc (hR : R na β0 w0 σ β a w) {bx : Nat → Box} {t : TypeId} (ho : o.op = .alloc t) {Φ : Nat → List AV → Option Spec} {dr : Bool} {n : Nat} {e : Eff}
    (he : eff P Φ dr σ.eval bx n o = some e) (hn : Free na σ n) : StepOk P na β0 w0 (σ.apply o.dst e) o a w := by
  unfold eff at he
  rw [ho] at he
  simp only at he
  split at he
  · rename_i zs hz
    cases he
    unfold zeroCells at hz
    split at hz
    · rename_i i hi
      split at hz
      · rename_i v hv
        obtain ⟨h1, h2⟩ := hR.newCells hn (cells_vs (V_ofValue ⟨σ.box, β, w⟩ v) hz) t
        refine StepOk.value (v := .pointer (some ⟨w.heap.size, 0, none⟩)) ?_ h1 h2
        simp only [execOp, ho, Instr.alloc, zeroValue, typeInfo, hi, hv, Sem.run_bind, Sem.run_pure, Result.andThen_ok, newVar, newRow, run_newObj, run_program, World.alloc_eq]
      · cases hz
    · cases hz
  · cases he

theorem sound_box (hR : R na β0 w0 σ β a w) {bx : Nat → Box} {t : TypeId} {x : Operand} (ho : o.op = .box t x) {Φ : Nat → List AV → Option Spec} {dr : Bool} {n : Nat} {e : Eff}
    (he : eff P Φ dr σ.eval bx n o = some e) (hn : Free na σ n) : StepOk P na β0 w0 (σ.apply o.dst e) o a w := by
  unfold eff at he
  rw [ho] at he
  simp only at he
  split at he
  · rename_i cs hc
    cases he
    obtain ⟨h1, h2⟩ := hR.newCells hn (cells_vs (hR.V_eval x) hc) t
    refine StepOk.value (v := .pointer (some ⟨w.heap.size, 0, none⟩)) ?_ h1 h2
    simp only [execOp, ho, Instr.box, Sem.run_bind, Sem.run_pure, Result.andThen_ok, newVar, newRow, run_newObj, World.alloc_eq]
  · cases he

theorem u32Elem_spec {t e : TypeId} (h : u32Elem P t = some e) : P.underlying t = some (.slice e) ∧ P.underlying e = some (.int .u32) ∧ ∃ i, P.info? e = some i ∧ i.size = 1 ∧ i.bytes = 4 ∧ i.zero = some (.int .u32 0) := by
  unfold u32Elem at h
  split at h
  · rename_i e' hu
    split at h
    · rename_i i h1 h2
      split at h
      · rename_i h3 h4 h5
        cases h
        exact ⟨hu, h1, i, h2, h3, h4, h5⟩
      · cases h
    · cases h
  · cases h

theorem sound_make (hR : R na β0 w0 σ β a w) {bx : Nat → Box} {t : TypeId} {x y : Operand} (ho : o.op = .makeSlice t x y) {Φ : Nat → List AV → Option Spec} {dr : Bool} {n : Nat} {e : Eff}
    (he : eff P Φ dr σ.eval bx n o = some e) (hp : andO e.pre True) (hn : Free na σ n) : StepOk P na β0 w0 (σ.apply o.dst e) o a w := by
  have hVx := hR.V_eval x
  have hVy := hR.V_eval y
  unfold eff at he
  rw [ho] at he
  simp only at he
  split at he
  · rename_i el k1 l k2 c hu hx hy
    cases he
    rw [hx] at hVx
    rw [hy] at hVy
    have ex := hVx.num_inv
    have ey := hVy.num_inv
    obtain ⟨u1, u2, i, u3, u4, u5, u6⟩ := u32Elem_spec hu
    obtain ⟨⟨p1, p2, p3⟩, _⟩ := hp
    have hrun := run_make (P := P) w t el i _ u1 u3 u6 k1 k2 l c p1 p2 (by rw [u5]; omega) (by omega)
    rw [u4, Nat.mul_one] at hrun
    have hcell : ∀ j, j < c.toNat → (madeCells (Value.int .u32 0).cells c.toNat)[j]? = some (.int .u32 0) := by
      intro j hj
      simp [madeCells, Value.cells, hj, Nat.mod_one]
    have hsz : (madeCells (Value.int .u32 0).cells c.toNat).size = c.toNat := size_madeCells _ _
    refine StepOk.value (v := .slice (some ⟨w.heap.size, 0, none⟩) l.toNat c.toNat) (σ' := { σ with boxes := σ.boxes.set n (.digs el (List.replicate l.toNat 0)) }) (β' := setβ β n (· = w.heap.size)) (w' := w.alloc (.cells (madeCells (Value.int .u32 0).cells c.toNat) el)) (c := .own n) ?_ ?_ ?_
    · simp only [execOp, ho, ex, ey, Sem.run_bind, hrun, Result.andThen_ok, Sem.run_pure]
    · refine hR.newId hn.na hn.len hn.un _ _ (Grow.alloc1 w _ _) (by simp) (fun x hx => by subst hx; simp) ⟨fun x y hx hy => ?_, ⟨by simp; omega, fun x hx => ?_⟩, fun x hx => ?_⟩
      · rw [(setβ_eq _ _ _ _).1 hx, (setβ_eq _ _ _ _).1 hy]
      · simp at hx; omega
      · have := (setβ_eq _ _ _ _).1 hx
        subst this
        refine ⟨_, heap_alloc_new w _, by rw [hsz]; simp; omega, fun j y hj => ?_⟩
        rw [List.getElem?_replicate] at hj
        split at hj
        · cases hj; rw [hcell j (by omega)]; rfl
        · cases hj
    · simp only [V]
      rw [St.box_set _ _ _ _ hn.len, if_pos rfl]
      refine ⟨by simp, ⟨_, _, _, rfl⟩, fun T l' hl => .inr ⟨w.heap.size, c.toNat, (setβ_eq _ _ _ _).2 rfl, ?_, ?_, ?_, ?_⟩⟩
      · cases hl; simp
      · cases hl; simp; omega
      · simp only [maxLen]; omega
      · cases hl; exact ⟨_, heap_alloc_new w _, hsz.symm⟩
  · cases he

end
end Go.AI
