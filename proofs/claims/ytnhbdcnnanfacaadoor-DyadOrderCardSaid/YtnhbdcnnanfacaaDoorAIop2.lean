/- More operations: stores, new boxes, arithmetic. -/
import Derived.Test.YtnhbdcnnanfacaaDoorAIop
namespace Go.AI
open Go Go.RowKit
set_option linter.unusedVariables false
set_option linter.unusedSimpArgs false

section
variable {P : Program} {na : Nat} {β0 : Nat → Nat → Prop} {w0 : World} {σ : St} {β : Nat → Nat → Prop} {a : Act} {w : World} {o : Oper}

theorem oneCell_cells {v : Value} (h : v.oneCell' = true) : v.cells = #[v] := by
  cases v <;> simp [Value.oneCell'] at h <;> rfl

theorem cells_vs {C : Ctx} {c : AV} {v : Value} (h : V C c v) {cs : List AV} (hc : c.cells = some cs) : Vs C cs v.cells.toList := by
  have key : ∀ {d : AV}, d = c → (if d.oneCell then some [d] else none) = some cs → Vs C cs v.cells.toList := by
    intro d hd e
    subst hd
    split at e
    · rename_i h1
      cases e
      rw [oneCell_cells (h.oneCell h1)]
      simp only [Vs]
      exact ⟨h, trivial⟩
    · cases e
  cases c with
  | agg cs' =>
    simp [AV.cells] at hc; subst hc
    simp only [V] at h
    obtain ⟨vs, rfl, h2⟩ := h
    simpa [Value.cells] using h2
  | _ => exact key rfl hc

theorem overwrite_vs {C : Ctx} {cs xs : List AV} {vs us : List Value} (h : Vs C cs vs) (k : Vs C xs us) (off : Nat) : Vs C (overwrite off xs cs) (vs.take off ++ us ++ vs.drop (off + us.length)) := by
  unfold overwrite
  rw [k.length]
  exact ((h.take off).append k).append (h.drop _)

theorem setRow_grow {g : Nat} {w0 w : World} (h : Grow w0 w) (hg : w0.heap.size ≤ g) {old cs : Array Value} {T : TypeId} (hh : w.heap[g]? = some (.cells old T (0, 0))) : Grow w0 (w.setRow g cs) := by
  refine ⟨h.below.trans ⟨rfl, rfl, rfl, by simp, fun k hk => setRow_other w g k cs (by omega)⟩, fun k h1 h2 => ?_⟩
  by_cases e : k = g
  · subst e; exact ⟨cs, T, setRow_heap w k old cs T (0, 0) hh⟩
  · obtain ⟨c, T', hc⟩ := h.fresh k h1 (by simpa using h2)
    exact ⟨c, T', (setRow_other w g k cs e).trans hc⟩

theorem StepOk.skip {σ' : St} {β' : Nat → Nat → Prop} {w' : World} (hrun : (execOp a.eval o).run P w = .ok .skip w') (hR : R na β0 w0 σ' β' a w') : StepOk P na β0 w0 (σ'.put o.dst .junk) o a w := by
  intro next Q h
  unfold Oper.wp
  rw [hrun]
  exact h β' _ w' (hR.put o.dst (by simp only [V]))

theorem u32_of {x : Int} (h0 : IntKind.u32.min ≤ x) (h1 : x ≤ IntKind.u32.max) : (x.toNat : Int) = x ∧ x.toNat < 2 ^ 32 := by
  simp [IntKind.min, IntKind.max, IntKind.signed, IntKind.bits] at h0 h1
  omega

theorem sound_store (hR : R na β0 w0 σ β a w) {bx : Nat → Box} (hb : Sub bx σ.box) {t : TypeId} {x y : Operand} (ho : o.op = .store t x y) {Φ : Nat → List AV → Option Spec} {dr : Bool} {n : Nat} {e : Eff}
    (he : eff P Φ dr σ.eval bx n o = some e) (hp : andO e.pre True) : StepOk P na β0 w0 (σ.apply o.dst e) o a w := by
  have hV := hR.V_eval x
  have hVy := hR.V_eval y
  unfold eff at he
  rw [ho] at he
  simp only at he
  split at he
  · rename_i b off hx
    rw [hx] at hV
    simp only [V] at hV
    split at he
    · rename_i cs hbx
      split at he
      · rename_i xs s hxs hs
        split at he
        · rename_i hcond
          cases he
          obtain ⟨hc1, hc2, hc3⟩ := hcond
          have hσ := hb.cells hbx
          obtain ⟨blk, hβ, hx2⟩ := hV.2 (by rw [hσ]; trivial)
          have hok := hR.boxes b
          rw [hσ] at hok
          obtain ⟨blk', h1, vs, T, h2, h3⟩ := hok
          have hbb : blk = blk' := (h1 blk).1 hβ
          subst hbb
          have hxv := cells_vs hVy hxs
          have hlen := h3.length
          have hlx := hxv.length
          have hst := run_storeCells_at P blk off T (a.eval y).cells.toList 0 vs w h2 (by simp at hlen hlx ⊢; omega) (fun u hu => by
            obtain ⟨j, hj⟩ := List.getElem?_of_mem hu
            obtain ⟨c, hc, hcu⟩ := hxv.getV hj
            exact hcu.oneCell (List.all_eq_true.1 hc3 c (List.mem_of_getElem? hc)))
          simp only [Nat.add_zero] at hst
          have hna := hR.na_lt (i := b) (by rw [hσ]; simp)
          have hlb := hR.len (i := b) (by rw [hσ]; simp)
          refine StepOk.skip (w' := w.setRow blk (vs.toList.take off ++ (a.eval y).cells.toList ++ vs.toList.drop (off + (a.eval y).cells.toList.length)).toArray) (β' := β) ?_ ?_
          · have hne : ¬ (a.eval y).cells.size ≠ s := by simp at hlx ⊢; omega
            simp only [execOp, ho, hx2, Instr.storeAt, Instr.sureAddr, Sem.run_bind, Sem.run_pure, Result.andThen_ok, storeVar, run_sizeOf hs, hne, if_false, hst]
          · refine hR.store hna hlb (.cells (overwrite off xs cs)) (.inl ⟨cs, _, hσ, rfl⟩) (fun x hx => setRow_other _ _ _ _ (fun e => hx (e ▸ hβ))) (fun x hx cs' T' hc => ?_) ?_ (by simp) ?_
            · have : x = blk := (h1 x).1 hx
              subst this
              rw [h2] at hc
              cases hc
              refine ⟨_, setRow_heap w x vs _ T (0, 0) h2, ?_⟩
              simp at hlen hlx ⊢
              omega
            · exact setRow_grow hR.grow (hR.new b blk hna hβ).1 h2
            · refine ⟨blk, h1, _, T, setRow_heap w blk vs _ T (0, 0) h2, ?_⟩
              have hle := Le.store hR hna hlb (.cells (overwrite off xs cs)) (w' := w.setRow blk (vs.toList.take off ++ (a.eval y).cells.toList ++ vs.toList.drop (off + (a.eval y).cells.toList.length)).toArray) (.inl ⟨cs, _, hσ, rfl⟩) (fun x hx => setRow_other _ _ _ _ (fun e => hx (e ▸ hβ))) (fun x hx cs' T' hc => by
                have : x = blk := (h1 x).1 hx
                subst this
                rw [h2] at hc
                cases hc
                refine ⟨_, setRow_heap w x vs _ T (0, 0) h2, ?_⟩
                simp at hlen hlx ⊢
                omega)
              exact Vs.mono hle _ _ (overwrite_vs h3 hxv off)
        · cases he
      · cases he
    · rename_i T l hbx
      split at he
      · rename_i v hy hs
        cases he
        have hσ := hb.digs hbx
        obtain ⟨blk, hβ, hx2⟩ := hV.2 (by rw [hσ]; trivial)
        have hok := hR.boxes b
        rw [hσ] at hok
        obtain ⟨h1, h2, h3⟩ := hok
        obtain ⟨cs, h4, h5, h6⟩ := h3 blk hβ
        have hlt : off < l.length := hp.1
        rw [hy] at hVy
        have hv := hVy
        simp only [V] at hv
        obtain ⟨hv1, hv2, hv3⟩ := hv
        obtain ⟨hu1, hu2⟩ := u32_of hv2 hv3
        have hst := run_storeCells_at P blk off T [.int .u32 v] 0 cs w h4 (by simp; omega) (fun u hu => by simp at hu; subst hu; rfl)
        simp only [Nat.add_zero] at hst
        have hna := hR.na_lt (i := b) (by rw [hσ]; simp)
        have hlb := hR.len (i := b) (by rw [hσ]; simp)
        have hcs : (cs.toList.take off ++ [Value.int .u32 v] ++ cs.toList.drop (off + [Value.int .u32 v].length)).toArray.size = cs.size := by simp; omega
        refine StepOk.skip (w' := w.setRow blk (cs.toList.take off ++ [Value.int .u32 v] ++ cs.toList.drop (off + [Value.int .u32 v].length)).toArray) (β' := β) ?_ ?_
        · simp only [execOp, ho, hx2, hv1, Instr.storeAt, Instr.sureAddr, Sem.run_bind, Sem.run_pure, Result.andThen_ok, storeVar, run_sizeOf hs, Value.cells, List.size_toArray, List.length_cons, List.length_nil, ne_eq, Nat.zero_add, not_true_eq_false, if_false, hst]
        · refine hR.store hna hlb (.digs T (l.set off v.toNat)) (.inr ⟨T, l, _, hσ, rfl, by simp⟩) (fun x hx => setRow_other _ _ _ _ (fun e => hx (e ▸ hβ))) (fun x hx cs' T' hc => ?_) ?_ (by simp) ?_
          · have : x = blk := h1 x blk hx hβ
            subst this
            rw [h4] at hc
            cases hc
            exact ⟨_, setRow_heap w x cs _ T (0, 0) h4, hcs⟩
          · exact setRow_grow hR.grow (hR.new b blk hna hβ).1 h4
          · refine ⟨h1, ⟨by simpa using h2.1, fun x hx => ?_⟩, fun x hx => ?_⟩
            · rcases List.mem_or_eq_of_mem_set hx with hx | hx
              · exact h2.2 x hx
              · rw [hx]; exact hu2
            · have : x = blk := h1 x blk hx hβ
              subst this
              refine ⟨_, setRow_heap w x cs _ T (0, 0) h4, by rw [hcs]; simpa using h5, fun j y hj => ?_⟩
              rw [List.getElem?_set] at hj
              simp only [List.getElem?_toArray]
              by_cases e : off = j
              · subst e
                rw [if_pos rfl, if_pos hlt] at hj
                cases hj
                rw [List.append_assoc, List.getElem?_append_right (by simp; omega)]
                simp [Nat.min_eq_left (show off ≤ cs.size by omega), hu1]
              · rw [if_neg e] at hj
                have hy := h6 j y hj
                rw [List.append_assoc]
                rcases Nat.lt_or_ge j off with hjo | hjo
                · rw [List.getElem?_append_left (by simp; omega), List.getElem?_take, if_pos hjo]
                  simpa using hy
                · rw [List.getElem?_append_right (by simp; omega), List.getElem?_append_right (by simp; omega), List.getElem?_drop]
                  have : off + [Value.int .u32 v].length + (j - (cs.toList.take off).length - [Value.int .u32 v].length) = j := by simp; omega
                  rw [this]
                  simpa using hy
      · cases he
    · cases he
  · cases he

end
end Go.AI
