/- What a new box, a store, a box given up do to the relation. -/
import Derived.Test.YtnhbdcnnanfacaaDoorAIst
namespace Go.AI
open Go Go.RowKit
set_option linter.unusedVariables false
set_option linter.unusedSimpArgs false

def setβ (β : Nat → Nat → Prop) (n : Nat) (s : Nat → Prop) : Nat → Nat → Prop := fun i x => if i = n then s x else β i x

theorem setβ_same (β : Nat → Nat → Prop) (n : Nat) (s : Nat → Prop) (x : Nat) : setβ β n s n x ↔ s x := by simp [setβ]
theorem setβ_other (β : Nat → Nat → Prop) {n i : Nat} (s : Nat → Prop) (h : i ≠ n) (x : Nat) : setβ β n s i x ↔ β i x := by simp [setβ, h]

theorem St.box_set (σ : St) (n j : Nat) (b : Box) (h : n < σ.boxes.length) : St.box { σ with boxes := σ.boxes.set n b } j = if j = n then b else σ.box j := AI.box_set σ.boxes n j b h

section
variable {na : Nat} {β0 : Nat → Nat → Prop} {w0 : World} {σ : St} {β : Nat → Nat → Prop} {a : Act} {w : World}

theorem Le.newId (h : R na β0 w0 σ β a w) {n : Nat} (hlen : n < σ.boxes.length) (hun : σ.box n = .unborn) (b : Box) (s : Nat → Prop) {w' : World} (hw : Grow w w') (hb : b ≠ .unborn) :
    Le ⟨σ.box, β, w⟩ ⟨St.box { σ with boxes := σ.boxes.set n b }, setβ β n s, w'⟩ := by
  have key : ∀ i, σ.box i ≠ .unborn → i ≠ n := fun i hi e => hi (e ▸ hun)
  refine ⟨fun i hi => ?_, fun i hi ha => ?_, fun i T l' hi hd => ?_, fun i c' hi hc => ?_⟩
  · show St.box _ i ≠ _
    rw [St.box_set _ _ _ _ hlen, if_neg (key i hi)]; exact hi
  · change St.box _ i = _ at ha
    rw [St.box_set _ _ _ _ hlen, if_neg (key i hi)] at ha
    exact ⟨ha, fun x hx => ⟨(setβ_other β s (key i hi) x).2 hx, hw.below.block x (h.lt hx)⟩⟩
  · change St.box _ i = _ at hd
    rw [St.box_set _ _ _ _ hlen, if_neg (key i hi)] at hd
    exact ⟨l', hd, rfl, fun x hx => ⟨(setβ_other β s (key i hi) x).2 hx, fun cs hc => ⟨cs, (hw.below.block x (h.lt hx)).trans hc, rfl⟩⟩⟩
  · change St.box _ i = _ at hc
    rw [St.box_set _ _ _ _ hlen, if_neg (key i hi)] at hc
    exact ⟨c', hc, fun x hx => (setβ_other β s (key i hi) x).2 hx⟩

/-- a box is born -/
theorem R.newId (h : R na β0 w0 σ β a w) {n : Nat} (hna : na < n) (hlen : n < σ.boxes.length) (hun : σ.box n = .unborn) (b : Box) (s : Nat → Prop) {w' : World} (hw : Grow w w') (hb : b ≠ .unborn)
    (hs : ∀ x, s x → w.heap.size ≤ x ∧ x < w'.heap.size) (hok : BoxOk ⟨St.box { σ with boxes := σ.boxes.set n b }, setβ β n s, w'⟩ n b) :
    R na β0 w0 { σ with boxes := σ.boxes.set n b } (setβ β n s) a w' := by
  have hle := Le.newId h hlen hun b s hw hb
  have hsz := h.grow.below.size
  refine ⟨Vs.mono hle _ _ h.tmps, h.defers, fun i => ?_, fun i hi => ?_, fun i x hi hx => ?_, fun i x hi hx => ?_, fun i j x hi hj hx hy => ?_, fun i x hi hx => ?_, h.grow.trans hw, fun i x hi hx => h.arg0 i x hi (by rwa [setβ_other β s (by omega)] at hx)⟩
  · rw [St.box_set _ _ _ _ hlen]
    by_cases e : i = n
    · subst e; rw [if_pos rfl]; exact hok
    · rw [if_neg e]
      exact (h.boxes i).mono hle (fun x => setβ_other β s e x) (fun x hx => hw.below.block x (h.lt hx))
  · rw [St.box_set _ _ _ _ hlen, if_neg (by omega)]; exact h.args i hi
  · rw [setβ_other β s (by omega)] at hx; exact h.old i x hi hx
  · by_cases e : i = n
    · subst e
      rw [setβ_same] at hx
      have := hs x hx
      omega
    · rw [setβ_other β s e] at hx
      have := h.new i x hi hx
      have := hw.below.size
      omega
  · by_cases e : i = n <;> by_cases f : j = n
    · omega
    · subst e
      rw [setβ_same] at hx
      rw [setβ_other β s f] at hy
      have := hs x hx
      have := h.lt hy
      omega
    · subst f
      rw [setβ_same] at hy
      rw [setβ_other β s e] at hx
      have := hs x hy
      have := h.lt hx
      omega
    · rw [setβ_other β s e] at hx
      rw [setβ_other β s f] at hy
      exact h.disj i j x hi hj hx hy
  · rw [St.box_set _ _ _ _ hlen] at hi
    by_cases e : i = n
    · rw [if_pos e] at hi; exact hb hi
    · rw [if_neg e] at hi
      rw [setβ_other β s e] at hx
      exact h.unborn i x hi hx

/-- a store into a box of cells, or of digits: its block holds what the new contents say; all other blocks are as they were -/
theorem Le.store (h : R na β0 w0 σ β a w) {n : Nat} (hna : na < n) (hlen : n < σ.boxes.length) (b : Box) {w' : World}
    (hkind : (∃ c c', σ.box n = .cells c ∧ b = .cells c') ∨ (∃ T l l', σ.box n = .digs T l ∧ b = .digs T l' ∧ l.length = l'.length))
    (hoth : ∀ x, ¬ β n x → w'.heap[x]? = w.heap[x]?)
    (hsame : ∀ x, β n x → ∀ cs T, w.heap[x]? = some (.cells cs T (0, 0)) → ∃ cs', w'.heap[x]? = some (.cells cs' T (0, 0)) ∧ cs'.size = cs.size) :
    Le ⟨σ.box, β, w⟩ ⟨St.box { σ with boxes := σ.boxes.set n b }, β, w'⟩ := by
  have dis : ∀ i x, i ≠ n → σ.box i ≠ .unborn → β i x → ¬ β n x := by
    intro i x hi hu hx hy
    by_cases h' : i ≤ na
    · have := h.old i x h' hx; have := (h.new n x hna hy).1; omega
    · exact hi (h.disj i n x (by omega) hna hx hy)
  refine ⟨fun i hi => ?_, fun i hi ha => ?_, fun i T l' hi hd => ?_, fun i c' hi hc => ?_⟩
  · show St.box _ i ≠ _
    rw [St.box_set _ _ _ _ hlen]
    split
    · rcases hkind with ⟨_, _, _, e⟩ | ⟨_, _, _, _, e, _⟩ <;> rw [e] <;> simp
    · exact hi
  · change St.box _ i = _ at ha
    rw [St.box_set _ _ _ _ hlen] at ha
    by_cases e : i = n
    · rw [if_pos e] at ha
      rcases hkind with ⟨_, _, _, e⟩ | ⟨_, _, _, _, e, _⟩ <;> rw [e] at ha <;> simp at ha
    · rw [if_neg e] at ha
      exact ⟨ha, fun x hx => ⟨hx, hoth x (dis i x e hi hx)⟩⟩
  · change St.box _ i = _ at hd
    rw [St.box_set _ _ _ _ hlen] at hd
    by_cases e : i = n
    · rw [if_pos e] at hd
      rcases hkind with ⟨_, _, _, e'⟩ | ⟨T', l, l'', e1, e', e2⟩
      · rw [e'] at hd; simp at hd
      · rw [e'] at hd
        injection hd with hT hl
        subst hT; subst hl
        exact ⟨l, e ▸ e1, e2, fun x hx => ⟨hx, fun cs hc => hsame x (e ▸ hx) cs _ hc⟩⟩
    · rw [if_neg e] at hd
      exact ⟨l', hd, rfl, fun x hx => ⟨hx, fun cs hc => ⟨cs, (hoth x (dis i x e hi hx)).trans hc, rfl⟩⟩⟩
  · change St.box _ i = _ at hc
    rw [St.box_set _ _ _ _ hlen] at hc
    by_cases e : i = n
    · rw [if_pos e] at hc
      rcases hkind with ⟨c, c'', e1, e'⟩ | ⟨_, _, _, _, e', _⟩
      · exact ⟨c, e ▸ e1, fun _ hx => hx⟩
      · rw [e'] at hc; simp at hc
    · rw [if_neg e] at hc
      exact ⟨c', hc, fun _ hx => hx⟩

theorem R.store (h : R na β0 w0 σ β a w) {n : Nat} (hna : na < n) (hlen : n < σ.boxes.length) (b : Box) {w' : World}
    (hkind : (∃ c c', σ.box n = .cells c ∧ b = .cells c') ∨ (∃ T l l', σ.box n = .digs T l ∧ b = .digs T l' ∧ l.length = l'.length))
    (hoth : ∀ x, ¬ β n x → w'.heap[x]? = w.heap[x]?)
    (hsame : ∀ x, β n x → ∀ cs T, w.heap[x]? = some (.cells cs T (0, 0)) → ∃ cs', w'.heap[x]? = some (.cells cs' T (0, 0)) ∧ cs'.size = cs.size)
    (hg : Grow w0 w') (hsz : w'.heap.size = w.heap.size)
    (hok : BoxOk ⟨St.box { σ with boxes := σ.boxes.set n b }, β, w'⟩ n b) :
    R na β0 w0 { σ with boxes := σ.boxes.set n b } β a w' := by
  have hle := Le.store h hna hlen b hkind hoth hsame
  have dis : ∀ i x, i ≠ n → β i x → ¬ β n x := by
    intro i x hi hx hy
    by_cases h' : i ≤ na
    · have := h.old i x h' hx; have := (h.new n x hna hy).1; omega
    · exact hi (h.disj i n x (by omega) hna hx hy)
  refine ⟨Vs.mono hle _ _ h.tmps, h.defers, fun i => ?_, fun i hi => ?_, h.old, fun i x hi hx => ?_, h.disj, fun i x hi hx => ?_, hg, h.arg0⟩
  · rw [St.box_set _ _ _ _ hlen]
    by_cases e : i = n
    · subst e; rw [if_pos rfl]; exact hok
    · rw [if_neg e]
      exact (h.boxes i).mono hle (fun x => Iff.rfl) (fun x hx => hoth x (dis i x e hx))
  · rw [St.box_set _ _ _ _ hlen, if_neg (by omega)]; exact h.args i hi
  · rw [hsz]; exact h.new i x hi hx
  · rw [St.box_set _ _ _ _ hlen] at hi
    by_cases e : i = n
    · rw [if_pos e] at hi
      rcases hkind with ⟨_, _, _, e⟩ | ⟨_, _, _, _, e, _⟩ <;> rw [e] at hi <;> simp at hi
    · rw [if_neg e] at hi
      exact h.unborn i x hi hx

/-- a box is given up; its blocks go over into an arena that is there -/
def giveβ (β : Nat → Nat → Prop) (i n : Nat) : Nat → Nat → Prop := fun j x => if j = i then False else if j = n then β n x ∨ β i x else β j x

theorem Le.give (h : R na β0 w0 σ β a w) {i n : Nat} (hi : na < i) (hlen : i < σ.boxes.length) (hin : i ≠ n) :
    Le ⟨σ.box, β, w⟩ ⟨St.box { σ with boxes := σ.boxes.set i .dead }, giveβ β i n, w⟩ := by
  have up : ∀ j x, j ≠ i → β j x → giveβ β i n j x := by
    intro j x hj hx
    unfold giveβ
    rw [if_neg hj]
    split
    · rename_i e; subst e; exact .inl hx
    · exact hx
  refine ⟨fun j hj => ?_, fun j hj ha => ?_, fun j T l' hj hd => ?_, fun j c' hj hc => ?_⟩
  · show St.box _ j ≠ _
    rw [St.box_set _ _ _ _ hlen]
    split
    · simp
    · exact hj
  · change St.box _ j = _ at ha
    rw [St.box_set _ _ _ _ hlen] at ha
    by_cases e : j = i
    · rw [if_pos e] at ha; simp at ha
    · rw [if_neg e] at ha
      exact ⟨ha, fun x hx => ⟨up j x e hx, rfl⟩⟩
  · change St.box _ j = _ at hd
    rw [St.box_set _ _ _ _ hlen] at hd
    by_cases e : j = i
    · rw [if_pos e] at hd; simp at hd
    · rw [if_neg e] at hd
      exact ⟨l', hd, rfl, fun x hx => ⟨up j x e hx, fun cs hc => ⟨cs, hc, rfl⟩⟩⟩
  · change St.box _ j = _ at hc
    rw [St.box_set _ _ _ _ hlen] at hc
    by_cases e : j = i
    · rw [if_pos e] at hc; simp at hc
    · rw [if_neg e] at hc
      exact ⟨c', hc, fun x hx => up j x e hx⟩

theorem R.give (h : R na β0 w0 σ β a w) {i n : Nat} (hi : na < i) (hlen : i < σ.boxes.length) (hin : i ≠ n) (hn : na < n) (harena : σ.box n = .arena) :
    R na β0 w0 { σ with boxes := σ.boxes.set i .dead } (giveβ β i n) a w := by
  have hle := Le.give h hi hlen hin
  refine ⟨Vs.mono hle _ _ h.tmps, h.defers, fun j => ?_, fun j hj => ?_, fun j x hj hx => ?_, fun j x hj hx => ?_, fun j k x hj hk hx hy => ?_, fun j x hj hx => ?_, h.grow, fun j x hj hx => by
    unfold giveβ at hx
    rw [if_neg (by omega), if_neg (by omega)] at hx
    exact h.arg0 j x hj hx⟩
  · rw [St.box_set _ _ _ _ hlen]
    by_cases e : j = i
    · rw [if_pos e]; trivial
    · rw [if_neg e]
      by_cases f : j = n
      · rw [f, harena]; trivial
      · exact (h.boxes j).mono hle (fun x => by simp [giveβ, e, f]) (fun x _ => rfl)
  · rw [St.box_set _ _ _ _ hlen, if_neg (by omega)]; exact h.args j hj
  · unfold giveβ at hx
    rw [if_neg (by omega), if_neg (by omega)] at hx
    exact h.old j x hj hx
  · unfold giveβ at hx
    split at hx
    · exact hx.elim
    · split at hx
      · rcases hx with hx | hx
        · exact h.new n x hn hx
        · exact h.new i x hi hx
      · exact h.new j x hj hx
  · have aux : ∀ j, na < j → giveβ β i n j x → j ≠ i ∧ ∃ j', na < j' ∧ β j' x ∧ (j' = j ∨ (j' = i ∧ j = n)) := by
      intro j hj hx
      unfold giveβ at hx
      split at hx
      · exact hx.elim
      · rename_i e
        refine ⟨e, ?_⟩
        split at hx
        · rename_i f
          rcases hx with hx | hx
          · exact ⟨n, hn, hx, .inl f.symm⟩
          · exact ⟨i, hi, hx, .inr ⟨rfl, f⟩⟩
        · exact ⟨j, hj, hx, .inl rfl⟩
    obtain ⟨hj1, j', hj2, hj3, hj4⟩ := aux j hj hx
    obtain ⟨hk1, k', hk2, hk3, hk4⟩ := aux k hk hy
    have := h.disj j' k' x hj2 hk2 hj3 hk3
    omega
  · rw [St.box_set _ _ _ _ hlen] at hj
    by_cases e : j = i
    · rw [if_pos e] at hj; simp at hj
    · rw [if_neg e] at hj
      unfold giveβ at hx
      rw [if_neg e] at hx
      split at hx
      · rename_i f; rw [f, harena] at hj; simp at hj
      · exact h.unborn j x hj hx

end
end Go.AI
