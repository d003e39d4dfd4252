/- The operations, but calls: what the interpreter says of them is what the model does. -/
import Derived.Test.YtnhbdcnnanfacaaDoorAIbox
namespace Go.AI
open Go Go.RowKit
set_option linter.unusedVariables false
set_option linter.unusedSimpArgs false

def Sub (bx bs : Nat → Box) : Prop := ∀ i, bx i = .unborn ∨ bx i = bs i

theorem Sub.refl (bs : Nat → Box) : Sub bs bs := fun i => .inr rfl
theorem Sub.mask (lim : Nat → Bool) (bs : Nat → Box) : Sub (mask lim bs) bs := fun i => by
  unfold AI.mask; split
  · exact .inr rfl
  · exact .inl rfl
theorem Sub.cells {bx bs : Nat → Box} (h : Sub bx bs) {i : Nat} {c : List AV} (e : bx i = .cells c) : bs i = .cells c := by
  rcases h i with h | h <;> rw [e] at h
  · simp at h
  · exact h.symm
theorem Sub.digs {bx bs : Nat → Box} (h : Sub bx bs) {i T : Nat} {c : List Nat} (e : bx i = .digs T c) : bs i = .digs T c := by
  rcases h i with h | h <;> rw [e] at h
  · simp at h
  · exact h.symm
theorem Sub.arena {bx bs : Nat → Box} (h : Sub bx bs) {i : Nat} (e : bx i = .arena) : bs i = .arena := by
  rcases h i with h | h <;> rw [e] at h
  · simp at h
  · exact h.symm

theorem alive_of {bx bs : Nat → Box} (h : Sub bx bs) (β : Nat → Nat → Prop) (w : World) : ∀ {p : List Nat}, allArena bx p = true → Ctx.alive ⟨bs, β, w⟩ p
  | [], _ => by simp [Ctx.alive]
  | i :: p, ha => by
    unfold allArena at ha
    split at ha
    · rename_i e
      intro j hj
      rcases List.mem_cons.1 hj with rfl | hj
      · exact h.arena e
      · exact alive_of h β w ha j hj
    · cases ha

theorem born_of {bx bs : Nat → Box} (h : Sub bx bs) (β : Nat → Nat → Prop) (w : World) {p : List Nat} (ha : allArena bx p = true) : Ctx.born ⟨bs, β, w⟩ p := fun i hi e => by
  have := alive_of h β w ha i hi
  change bs i = _ at e this
  rw [e] at this; simp at this

section
variable {P : Program} {na : Nat} {β0 : Nat → Nat → Prop} {w0 : World} {σ : St} {β : Nat → Nat → Prop} {a : Act} {w : World} {o : Oper}

/-- the operation goes through, and what follows starts in a related state -/
def StepOk (P : Program) (na : Nat) (β0 : Nat → Nat → Prop) (w0 : World) (σ' : St) (o : Oper) (a : Act) (w : World) : Prop :=
  ∀ (next : Act → World → Prop) (Q : Exit → Act → World → Prop), (∀ β' a' w', R na β0 w0 σ' β' a' w' → next a' w') → o.wp P a w next Q

theorem StepOk.value {σ' : St} {β' : Nat → Nat → Prop} {v : Value} {w' : World} {c : AV} (hrun : (execOp a.eval o).run P w = .ok (.value v) w')
    (hR : R na β0 w0 σ' β' a w') (hV : V ⟨σ'.box, β', w'⟩ c v) : StepOk P na β0 w0 (σ'.put o.dst c) o a w := by
  intro next Q h
  unfold Oper.wp
  rw [hrun]
  exact h β' _ w' (hR.put o.dst hV)

theorem StepOk.pure {v : Value} {c : AV} (hR : R na β0 w0 σ β a w) (hrun : (execOp a.eval o).run P w = .ok (.value v) w) (hV : V ⟨σ.box, β, w⟩ c v) :
    StepOk P na β0 w0 (σ.apply o.dst ⟨none, c, []⟩) o a w := StepOk.value hrun hR hV

theorem V.num_inv {C : Ctx} {k : IntKind} {n : Int} {v : Value} (h : V C (.num k n) v) : v = .int k n := by simp only [V] at h; exact h.1
theorem V.bool_inv {C : Ctx} {b : Bool} {v : Value} (h : V C (.bool b) v) : v = .bool b := by simp only [V] at h; exact h

theorem run_sizeOf {P : Program} {t s : Nat} (h : size? P t = some s) (w : World) : (sizeOf t).run P w = .ok s w := by
  unfold size? at h
  cases hi : P.info? t with
  | none => rw [hi] at h; simp at h
  | some i => rw [hi] at h; simp at h; simp [sizeOf, typeInfo, hi, h]

theorem run_isAgg {P : Program} {t : Nat} {b : Bool} (h : isAgg P t = some b) (w : World) : (Go.isAgg t).run P w = .ok b w := by
  unfold AI.isAgg at h
  cases hu : P.underlying t with
  | none => rw [hu] at h; simp at h
  | some d =>
    rw [hu] at h
    simp only [Go.isAgg, Sem.run_bind, run_underlying hu, Result.andThen_ok]
    cases d <;> simp at h <;> subst h <;> rfl

theorem add_none (b o n : Nat) : (⟨b, o, none⟩ : Addr).add n = ⟨b, o + n, none⟩ := by
  unfold Addr.add; split <;> simp_all

/-- cells that are known, loaded as a value of a type -/
theorem run_loadVar {C : Ctx} {t : TypeId} {cs : List AV} {c : AV} (hp : packAt P t cs = some c) {vs : List Value} (hvs : Vs C cs vs) {w : World} {b off : Nat}
    (hc : ∀ (j : Nat) (u : Value), vs[j]? = some u → w.cell? ⟨b, off + j, none⟩ = some u) :
    ∃ v, (loadVar t ⟨b, off, none⟩).run P w = .ok v w ∧ V C c v := by
  unfold packAt at hp
  split at hp
  · rename_i s h1 h2
    split at hp
    · rename_i hle
      cases hp
      have hlen := hvs.length
      have hl := run_loadCells_list (P := P) w ⟨b, off, none⟩ (vs.take s) (fun j v hj => by
        rw [add_none]
        rw [List.getElem?_take] at hj
        split at hj
        · exact hc j v hj
        · cases hj)
      rw [List.length_take, Nat.min_eq_left (by omega)] at hl
      refine ⟨.agg (vs.take s).toArray, ?_, ?_⟩
      · simp only [loadVar, Sem.run_bind, run_isAgg h1, Result.andThen_ok, if_true, run_sizeOf h2, hl, Sem.run_pure]
      · simp only [V]; exact ⟨_, rfl, hvs.take s⟩
    · cases hp
  · rename_i h1
    cases cs with
    | nil => simp at hp
    | cons c' cs =>
      simp at hp
      subst hp
      obtain ⟨v, hv1, hv2⟩ := hvs.get (i := 0) (c := c') (by simp)
      refine ⟨v, ?_, hv2⟩
      have := hc 0 v hv1
      simp only [Nat.add_zero] at this
      simp only [loadVar, Sem.run_bind, run_isAgg h1, Result.andThen_ok, Bool.false_eq_true, if_false, run_load, this]
  · cases hp

theorem cell?_of_block {w : World} {b : Nat} {cs : Array Value} {T : TypeId} {fr : Nat × Nat} (h : w.heap[b]? = some (.cells cs T fr)) (o : Nat) : w.cell? ⟨b, o, none⟩ = cs[o]? := by
  simp [World.cell?, h]

theorem R.len (h : R na β0 w0 σ β a w) {i : Nat} (hi : σ.box i ≠ .unborn) : i < σ.boxes.length := by
  rcases Nat.lt_or_ge i σ.boxes.length with h' | h'
  · exact h'
  · exact absurd (by simp [St.box, List.getD, List.getElem?_eq_none h']) hi

theorem R.na_lt (h : R na β0 w0 σ β a w) {i : Nat} (hi : σ.box i ≠ .arena) : na < i := by
  rcases Nat.lt_or_ge na i with h' | h'
  · exact h'
  · exact absurd (h.args i h') hi

theorem okDig_get {l : List Nat} (h : okDig l) (i : Nat) : l.getD i 0 < 2 ^ 32 := by
  simp only [List.getD]
  cases hl : l[i]? with
  | none => simp
  | some x => exact h.2 x (List.mem_of_getElem? hl)

theorem V_u32 (C : Ctx) {x : Nat} (h : x < 2 ^ 32) : V C (.num .u32 (x : Int)) (.int .u32 (x : Int)) := by
  simp only [V]
  refine ⟨trivial, ?_, ?_⟩ <;> simp [IntKind.min, IntKind.max, IntKind.signed, IntKind.bits] <;> omega

theorem sound_load (hR : R na β0 w0 σ β a w) {bx : Nat → Box} (hb : Sub bx σ.box) {t : TypeId} {x : Operand} (ho : o.op = .load t x) {Φ : Nat → List AV → Option Spec} {dr : Bool} {n : Nat} {e : Eff}
    (he : eff P Φ dr σ.eval bx n o = some e) (hp : andO e.pre True) : StepOk P na β0 w0 (σ.apply o.dst e) o a w := by
  have hV := hR.V_eval x
  unfold eff at he
  rw [ho] at he
  simp only at he
  split at he
  · rename_i b off hx
    rw [hx] at hV
    simp only [V] at hV
    split at he
    · rename_i cs hbx
      split at he
      · rename_i v hpk
        cases he
        have hσ := hb.cells hbx
        obtain ⟨blk, hβ, hx2⟩ := hV.2 (by rw [hσ]; trivial)
        have hok := hR.boxes b
        rw [hσ] at hok
        obtain ⟨blk', h1, vs, T, h2, h3⟩ := hok
        have hbb : blk = blk' := (h1 blk).1 hβ
        subst hbb
        obtain ⟨u, hu1, hu2⟩ := run_loadVar (P := P) hpk (h3.drop off) (w := w) (b := blk) (off := off) (fun j u hj => by
          rw [cell?_of_block h2]
          rw [List.getElem?_drop] at hj
          simpa using hj)
        refine StepOk.pure hR (v := u) ?_ hu2
        simp only [execOp, ho, hx2, Instr.loadAt, Instr.sureAddr, Sem.run_bind, Sem.run_pure, Result.andThen_ok, hu1]
      · cases he
    · rename_i T l hbx
      split at he
      · rename_i hag
        cases he
        have hσ := hb.digs hbx
        obtain ⟨blk, hβ, hx2⟩ := hV.2 (by rw [hσ]; trivial)
        have hok := hR.boxes b
        rw [hσ] at hok
        obtain ⟨h1, h2, h3⟩ := hok
        obtain ⟨cs, h4, h5, h6⟩ := h3 blk hβ
        have hlt : off < l.length := hp.1
        have hcell := h6 off l[off] (by simp [hlt])
        refine StepOk.pure hR (v := .int .u32 (l.getD off 0 : Nat)) ?_ (V_u32 _ (okDig_get h2 off))
        have hc : w.cell? ⟨blk, off, none⟩ = some (.int .u32 (l.getD off 0 : Nat)) := by
          rw [cell?_of_block h4, hcell]; simp [List.getD, hlt]
        simp only [execOp, ho, hx2, Instr.loadAt, Instr.sureAddr, Sem.run_bind, Sem.run_pure, Result.andThen_ok, loadVar, run_isAgg hag, Bool.false_eq_true, if_false, run_load, hc]
      · cases he
    · cases he
  · rename_i p cs hx
    rw [hx] at hV
    simp only [V] at hV
    split at he
    · rename_i har
      split at he
      · rename_i v hpk
        cases he
        obtain ⟨_, vs, hvs, b, off, hx2, hc⟩ := hV
        obtain ⟨u, hu1, hu2⟩ := run_loadVar (P := P) hpk hvs (w := w) (b := b) (off := off) (hc (alive_of hb β w har)).2
        refine StepOk.pure hR (v := u) ?_ hu2
        simp only [execOp, ho, hx2, Instr.loadAt, Instr.sureAddr, Sem.run_bind, Sem.run_pure, Result.andThen_ok, hu1]
      · cases he
    · cases he
  · cases he

theorem V.oneCell {C : Ctx} {c : AV} {v : Value} (h : V C c v) (h1 : c.oneCell = true) : v.oneCell' = true := by
  cases c with
  | num k n => simp only [V] at h; rw [h.1]; rfl
  | bool b => simp only [V] at h; rw [h]; rfl
  | nilS => simp only [V] at h; rw [h]; rfl
  | dig p l => simp only [V] at h; obtain ⟨_, _, _, _, h, _⟩ := h; rw [h]; rfl
  | vec p n l => simp only [V] at h; obtain ⟨_, _, _, _, _, _, h, _⟩ := h; rw [h]; rfl
  | cref p cs => simp only [V] at h; obtain ⟨_, _, _, _, _, h, _⟩ := h; rw [h]; rfl
  | fn f caps => simp only [V] at h; obtain ⟨_, h, _⟩ := h; rw [h]; rfl
  | own b => simp only [V] at h; obtain ⟨_, ⟨base, n, cap, rfl⟩, _⟩ := h; rfl
  | _ => simp [AV.oneCell] at h1

end
end Go.AI
