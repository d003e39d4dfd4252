/- On what an operation's effect hangs. -/
import Derived.Test.YtnhbdcnnanfacaaDoorAIeff
namespace Go.AI
open Go Go.RowKit
set_option linter.unusedVariables false
set_option linter.unusedSimpArgs false

section
variable {P : Program} {Φ : Nat → List AV → Option Spec} {dr : Bool} {n : Nat} {o : Oper} {bx bx' : Nat → Box} {ρ ρ' : Operand → AV} {e : Eff}

theorem eff_congr (h : ∀ x ∈ o.op.operands, ρ x = ρ' x) : eff P Φ dr ρ bx n o = eff P Φ dr ρ' bx n o := by
  unfold eff
  cases ho : o.op <;> rw [ho] at h <;> simp only [Op.operands] at h <;> (try dsimp only)
  case move x => rw [h x (by simp)]
  case assign x => rw [h x (by simp)]
  case pick c x y => rw [h c (by simp), h x (by simp), h y (by simp)]
  case box t x => rw [h x (by simp)]
  case build t ps =>
    have : (ps.toList.map fun (x : Nat × Operand) => (x.1, ρ x.2)) = ps.toList.map fun (x : Nat × Operand) => (x.1, ρ' x.2) := List.map_congr_left fun x hx => by rw [h x.2 (by simp; exact ⟨x.1, by simpa using hx⟩)]
    simp only [this]
  case buildSlice t len ps =>
    have : (ps.toList.map fun (x : Nat × Operand) => (x.1, ρ x.2)) = ps.toList.map fun (x : Nat × Operand) => (x.1, ρ' x.2) := List.map_congr_left fun x hx => by rw [h x.2 (by simp; exact ⟨x.1, by simpa using hx⟩)]
    simp only [this]
  case load t x => rw [h x (by simp)]
  case store t x y => simp only [h x (by simp), h y (by simp)]
  case binOp op t x y t' => rw [h x (by simp), h y (by simp)]
  case unOp op t x => rw [h x (by simp)]
  case convert t t' x => rw [h x (by simp)]
  case makeSlice t x y => rw [h x (by simp), h y (by simp)]
  case slice t x lo hi mx =>
    have h1 := h x (by simp)
    have h2 : ∀ y, lo = some y → ρ y = ρ' y := fun y e => h y (by simp [e])
    have h3 : ∀ y, hi = some y → ρ y = ρ' y := fun y e => h y (by simp [e])
    cases lo with
    | none => cases hi with
      | none => simp only [h1]
      | some v => simp only [h1, h3 v rfl]
    | some u => cases hi with
      | none => simp only [h1, h2 u rfl]
      | some v => simp only [h1, h2 u rfl, h3 v rfl]
  case fieldAddr t x f => rw [h x (by simp)]
  case field t x f => rw [h x (by simp)]
  case indexAddr t x ix => rw [h x (by simp), h ix (by simp)]
  case extract x i => rw [h x (by simp)]
  case makeFunc fn first captured =>
    have : captured.toList.map ρ = captured.toList.map ρ' := List.map_congr_left fun x hx => h x (by simp; exact .inr (by simpa using hx))
    cases fn <;> simp only [this]
  case call c =>
    have : c.args.toList.map ρ = c.args.toList.map ρ' := List.map_congr_left fun x hx => h x (by simp [Call.operands]; exact .inr (by simpa using hx))
    cases hc : c.callee with
    | value f => simp only [this, h f (by simp [Call.operands, hc])]
    | builtin b => simp only [this]
    | invoke r m => rfl

/-- an operation that does not look at memory -/
theorem eff_nomem (h : isMem o.op = false) : eff P Φ dr ρ bx n o = eff P Φ dr ρ bx' n o := by
  unfold eff
  cases ho : o.op <;> rw [ho] at h <;> simp [isMem] at h <;> first | rfl | (rename_i fn _ _; cases fn <;> rfl)

theorem freeze_upd : ∀ (p : List Nat) {u : List (Nat × Box)}, freeze bx dr p = some u → ∀ x ∈ u, dr = false ∧ bx x.1 ≠ .unborn
  | [], u, h => by simp [freeze] at h; subst h; simp
  | i :: p, u, h => by
    unfold freeze at h
    split at h
    · exact freeze_upd p h
    · rename_i T l hi
      split at h
      · cases h
      · rename_i hd
        split at h
        · rename_i u' hu'
          cases h
          intro x hx
          rcases List.mem_cons.1 hx with rfl | hx
          · exact ⟨by simpa using hd, by rw [hi]; simp⟩
          · exact freeze_upd p hu' x hx
        · cases h
    · cases h

/-- which boxes an operation lays anew -/
theorem eff_upd (he : eff P Φ dr ρ bx n o = some e) : ∀ x ∈ e.upd, (x.1 = n ∧ allocates o.op = true) ∨ ((isStore o.op = true ∨ dr = false) ∧ bx x.1 ≠ .unborn) := by
  unfold eff at he
  cases ho : o.op <;> rw [ho] at he <;> simp only at he
  case call c =>
    cases hc : c.callee with
    | value f =>
      simp only [hc] at he
      split at he
      · unfold callEff at he
        split at he
        · cases he
        · split at he
          · cases he
          · split at he
            · cases he
            · rename_i u hu
              cases he
              intro x hx
              rcases List.mem_cons.1 hx with rfl | hx
              · exact .inl ⟨rfl, by simp [allocates, hc]⟩
              · obtain ⟨h1, h2⟩ := freeze_upd _ hu x hx
                exact .inr ⟨.inr h1, h2⟩
      · cases he
    | builtin b =>
      simp only [hc] at he
      unfold builtinEff at he
      cases b <;> simp only at he <;> try cases he
      case append =>
        split at he
        · split at he
          · unfold appendEff at he
            split at he
            · split at he
              · split at he
                · cases he; intro x hx; simp at hx; subst hx; exact .inl ⟨rfl, by simp [allocates, hc]⟩
                · cases he
              · cases he
            · split at he
              · rename_i hb _
                split at he
                · cases he
                  intro x hx
                  simp at hx
                  rcases hx with rfl | rfl
                  · exact .inr ⟨.inl (by simp [isStore, hc]), by rw [hb]; simp⟩
                  · exact .inl ⟨rfl, by simp [allocates, hc]⟩
                · cases he
              · cases he
            · cases he
          · cases he
        · cases he
      case len =>
        split at he
        · unfold lenEff at he
          (repeat' split at he) <;> cases he <;> simp
        · cases he
      case max =>
        split at he
        · unfold maxEff at he
          (repeat' split at he) <;> cases he <;> simp
        · cases he
      case min =>
        split at he
        · unfold minEff at he
          (repeat' split at he) <;> cases he <;> simp
        · cases he
    | invoke r m => simp only [hc] at he; cases he
  case store t x y =>
    split at he
    · split at he
      · rename_i hb
        split at he
        · split at he
          · cases he; intro x hx; simp at hx; subst hx; exact .inr ⟨.inl rfl, by rw [hb]; simp⟩
          · cases he
        · cases he
      · rename_i hb
        split at he
        · cases he; intro x hx; simp at hx; subst hx; exact .inr ⟨.inl rfl, by rw [hb]; simp⟩
        · cases he
      · cases he
    · cases he
  case makeFunc fn first captured =>
    cases fn <;> simp only at he
    case func f =>
      split at he
      · cases he; simp
      · cases he
    all_goals cases he
  all_goals
    (repeat' split at he) <;> cases he <;> simp [allocates]

end
end Go.AI
