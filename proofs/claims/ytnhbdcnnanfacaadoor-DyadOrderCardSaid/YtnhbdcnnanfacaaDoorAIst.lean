/- The relation between an abstract state and a frame with its world; what a step does to it. -/
import Derived.Test.YtnhbdcnnanfacaaDoorAIrel
import Derived.Orders
namespace Go.AI
open Go Go.RowKit
set_option linter.unusedVariables false
set_option linter.unusedSimpArgs false

/-- what was there has not turned; what is new may be written -/
structure Grow (w w' : World) : Prop where
  below : Below w.heap.size w w'
  fresh : ∀ k, w.heap.size ≤ k → k < w'.heap.size → ∃ c T, w'.heap[k]? = some (.cells c T (0, 0))

theorem Grow.refl (w : World) : Grow w w := ⟨Below.refl _ _, fun k h1 h2 => by omega⟩
theorem Grow.trans {a b c : World} (h : Grow a b) (k : Grow b c) : Grow a c := by
  refine ⟨h.below.trans (k.below.mono h.below.size), fun j h1 h2 => ?_⟩
  by_cases hj : j < b.heap.size
  · obtain ⟨c', T, he⟩ := h.fresh j h1 hj
    exact ⟨c', T, (k.below.block j hj).trans he⟩
  · exact k.fresh j (by omega) h2
theorem Grow.drew {a b : World} (h : Grow a b) : Grow a b.drew := ⟨h.below.drew, h.fresh⟩
theorem Grow.alloc {a b : World} (h : Grow a b) (cs : Array Value) (T : TypeId) : Grow a (b.alloc (.cells cs T)) := by
  refine h.trans ⟨(Below.refl _ _).alloc (Nat.le_refl _) _, fun k h1 h2 => ?_⟩
  have : k = b.heap.size := by simp at h2; omega
  subst this
  exact ⟨cs, T, heap_alloc_new b _⟩

theorem heap_alloc_lt (w : World) (o : Obj) {k : Nat} (h : k < w.heap.size) : (w.alloc o).heap[k]? = w.heap[k]? := Below.heap_alloc w o k h

theorem heap_setCell_same (w : World) (b o : Nat) (v : Value) {cs : Array Value} {T : TypeId} {fr : Nat × Nat} (h : w.heap[b]? = some (.cells cs T fr)) :
    (w.setCell ⟨b, o, none⟩ v).heap[b]? = some (.cells (cs.setIfInBounds o v) T fr) := by
  simp only [World.setCell, Array.getElem?_modify, if_true, h]
  simp

theorem Grow.setCell {a b : World} (h : Grow a b) {p : Addr} (hp : a.heap.size ≤ p.block) (v : Value) : Grow a (b.setCell p v) := by
  refine ⟨h.below.setCell hp v, fun k h1 h2 => ?_⟩
  obtain ⟨c, T, he⟩ := h.fresh k h1 (by simpa using h2)
  by_cases hk : k = p.block
  · subst hk
    simp only [World.setCell, Array.getElem?_modify, if_true, he]
    exact ⟨_, _, rfl⟩
  · exact ⟨c, T, (Below.heap_setCell _ _ _ _ hk).trans he⟩

def BoxOk (C : Ctx) (i : Nat) : Box → Prop
  | .cells cs => ∃ blk, (∀ x, C.β i x ↔ x = blk) ∧ ∃ vs T, C.w.heap[blk]? = some (.cells vs T (0, 0)) ∧ Vs C cs vs.toList
  | .digs T l => (∀ x y, C.β i x → C.β i y → x = y) ∧ okDig l ∧ ∀ x, C.β i x → ∃ cs, C.w.heap[x]? = some (.cells cs T (0, 0)) ∧ l.length ≤ cs.size ∧ ∀ (j : Nat) (y : Nat), l[j]? = some y → cs[j]? = some (.int .u32 (y : Int))
  | _ => True

structure R (na : Nat) (β0 : Nat → Nat → Prop) (w0 : World) (σ : St) (β : Nat → Nat → Prop) (a : Act) (w : World) : Prop where
  tmps : Vs ⟨σ.box, β, w⟩ σ.tmps a.tmps.toList
  defers : a.defers = []
  boxes : ∀ i, BoxOk ⟨σ.box, β, w⟩ i (σ.box i)
  args : ∀ i, i ≤ na → σ.box i = .arena
  old : ∀ i x, i ≤ na → β i x → x < w0.heap.size
  new : ∀ i x, na < i → β i x → w0.heap.size ≤ x ∧ x < w.heap.size
  disj : ∀ i j x, na < i → na < j → β i x → β j x → i = j
  unborn : ∀ i x, σ.box i = .unborn → ¬ β i x
  grow : Grow w0 w
  arg0 : ∀ i x, i ≤ na → β i x → β0 i x

theorem R.lt {na : Nat} {β0 : Nat → Nat → Prop} {w0 : World} {σ : St} {β : Nat → Nat → Prop} {a : Act} {w : World} (h : R na β0 w0 σ β a w) {i x : Nat} (hx : β i x) : x < w.heap.size := by
  by_cases hi : i ≤ na
  · exact Nat.lt_of_lt_of_le (h.old i x hi hx) h.grow.below.size
  · exact (h.new i x (by omega) hx).2

theorem wrapOk (k : IntKind) (n : Int) : k.min ≤ k.wrap n ∧ k.wrap n ≤ k.max := by
  cases k <;> simp only [IntKind.wrap, IntKind.min, IntKind.max, IntKind.bits, IntKind.signed] <;> simp <;> (try split) <;> omega

section
variable {na : Nat} {β0 : Nat → Nat → Prop} {w0 : World} {σ : St} {β : Nat → Nat → Prop} {a : Act} {w : World}

theorem V_ofCell (C : Ctx) (v : Value) : V C (ofCell v) v := by
  unfold ofCell
  split
  · split
    · rename_i h; simp only [V]; exact ⟨trivial, h⟩
    · simp only [V]
  · simp only [V]
  · simp only [V]
  · simp only [V]

theorem V_ofValue (C : Ctx) (v : Value) : V C (ofValue v) v := by
  unfold ofValue
  split
  · rename_i cs
    simp only [V]
    exact ⟨cs.toList, by simp, Vs.of (by simp) fun i c v h1 h2 => by
      simp only [List.getElem?_map, h2, Option.map_some] at h1
      cases h1
      exact V_ofCell C v⟩
  · exact V_ofCell C v

theorem R.V_eval (h : R na β0 w0 σ β a w) (x : Operand) : V ⟨σ.box, β, w⟩ (σ.eval x) (a.eval x) := by
  cases x with
  | tmp t =>
    simp only [St.eval, Act.eval]
    cases hc : σ.tmps[t]? with
    | none => simp [List.getD, hc, V]
    | some c =>
      obtain ⟨v, h1, h2⟩ := h.tmps.get hc
      have : a.tmps[t]? = some v := by simpa using h1
      simp only [List.getD, hc, Option.getD_some]
      rw [Array.getD_eq_getD_getElem?, this]
      exact h2
  | const v => exact V_ofValue _ v
  | global g => simp only [St.eval, V]
  | func f =>
    simp only [St.eval, Act.eval, V]
    exact ⟨[], by simp, by simp only [Vs]⟩

theorem toList_setIfInBounds' (xs : Array Value) (i : Nat) (v : Value) : (xs.setIfInBounds i v).toList = xs.toList.set i v := by
  simp

/-- a value is laid in its slot -/
theorem R.put (h : R na β0 w0 σ β a w) (dst : Option Tmp) {c : AV} {v : Value} (hv : V ⟨σ.box, β, w⟩ c v) : R na β0 w0 (σ.put dst c) β (a.put dst v) w := by
  cases dst with
  | none => exact h
  | some d =>
    refine ⟨?_, h.defers, h.boxes, h.args, h.old, h.new, h.disj, h.unborn, h.grow, h.arg0⟩
    show Vs ⟨σ.box, β, w⟩ (σ.tmps.set d c) (a.tmps.setIfInBounds d v).toList
    rw [toList_setIfInBounds']
    exact h.tmps.set d hv

theorem BoxOk.mono {C C' : Ctx} (h : Le C C') {i : Nat} {b : Box} (hb : BoxOk C i b) (hβ : ∀ x, C'.β i x ↔ C.β i x) (hw : ∀ x, C.β i x → C'.w.heap[x]? = C.w.heap[x]?) : BoxOk C' i b := by
  cases b with
  | cells cs =>
    obtain ⟨blk, h1, vs, T, h2, h3⟩ := hb
    exact ⟨blk, fun x => (hβ x).trans (h1 x), vs, T, (hw blk ((h1 blk).2 rfl)).trans h2, Vs.mono h _ _ h3⟩
  | digs T l =>
    obtain ⟨h1, h0, h2⟩ := hb
    refine ⟨fun x y hx hy => h1 x y ((hβ x).1 hx) ((hβ y).1 hy), h0, fun x hx => ?_⟩
    obtain ⟨cs, h3, h4⟩ := h2 x ((hβ x).1 hx)
    exact ⟨cs, (hw x ((hβ x).1 hx)).trans h3, h4⟩
  | unborn => trivial
  | dead => trivial
  | arena => trivial

/-- only the world has grown: draws, blocks that nobody knows of -/
theorem Le.grow (hR : R na β0 w0 σ β a w) {w' : World} (hw : ∀ x, x < w.heap.size → w'.heap[x]? = w.heap[x]?) : Le ⟨σ.box, β, w⟩ ⟨σ.box, β, w'⟩ where
  born := fun _ h => h
  arena := fun i _ h => ⟨h, fun x hx => ⟨hx, hw x (hR.lt hx)⟩⟩
  digs := fun i T l' _ h => ⟨l', h, rfl, fun x hx => ⟨hx, fun cs hc => ⟨cs, (hw x (hR.lt hx)).trans hc, rfl⟩⟩⟩
  cells := fun i c' _ h => ⟨c', h, fun _ hx => hx⟩

theorem R.grown (h : R na β0 w0 σ β a w) {w' : World} (hw : Grow w w') : R na β0 w0 σ β a w' := by
  have hle := Le.grow h hw.below.block
  exact ⟨Vs.mono hle _ _ h.tmps, h.defers, fun i => (h.boxes i).mono hle (fun _ => Iff.rfl) (fun x hx => hw.below.block x (h.lt hx)), h.args, h.old,
    fun i x hi hx => ⟨(h.new i x hi hx).1, Nat.lt_of_lt_of_le (h.new i x hi hx).2 hw.below.size⟩, h.disj, h.unborn, h.grow.trans hw, h.arg0⟩

end

theorem box_set (bs : List Box) (i j : Nat) (b : Box) (h : i < bs.length) : (bs.set i b).getD j .unborn = if j = i then b else bs.getD j .unborn := by
  simp only [List.getD, List.getElem?_set]
  by_cases hj : i = j
  · subst hj; simp [h]
  · rw [if_neg hj, if_neg (Ne.symm hj)]

end Go.AI
