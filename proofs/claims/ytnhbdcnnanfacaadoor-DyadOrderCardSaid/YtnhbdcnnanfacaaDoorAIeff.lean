/- Every operation of which the interpreter speaks goes through as it says. -/
import Derived.Test.YtnhbdcnnanfacaaDoorAIcall2
namespace Go.AI
open Go Go.RowKit
set_option linter.unusedVariables false
set_option linter.unusedSimpArgs false

section
variable {P : Program} {Inv : World → Prop} {na : Nat} {β0 : Nat → Nat → Prop} {w0 : World} {σ : St} {β : Nat → Nat → Prop} {a : Act} {w : World} {o : Oper} {bx : Nat → Box} {Φ : Nat → List AV → Option Spec} {dr : Bool} {n : Nat} {e : Eff}

theorem sound_value (hR : R na β0 w0 σ β a w) (hb : Sub bx σ.box) (hInv : Inv w) (hΦ : PhiOk P Inv Φ) {c : Call} (ho : o.op = .call c) {f : Operand} (hc : c.callee = .value f)
    (he : eff P Φ dr σ.eval bx n o = some e) (hp : andO e.pre True) (hn : Free na σ n) : StepOk P na β0 w0 (σ.apply o.dst e) o a w := by
  have hVf := hR.V_eval f
  unfold eff at he
  rw [ho] at he
  simp only [hc] at he
  split at he
  · rename_i g caps hf
    rw [hf] at hVf
    simp only [V] at hVf
    obtain ⟨vs, hfv, hvs⟩ := hVf
    have hV := (evals_V hR c.args).append hvs
    obtain ⟨hent, hcall⟩ := sound_callEff (dst := o.dst) hR hb hInv hΦ hV he hp hn
    intro next Q hnext
    have hrun : (execOp a.eval o).run P w = .ok (.enter g ((c.args.map a.eval).toList ++ vs).toArray) w := by
      have : execOp a.eval o = callFunc g ((c.args.map a.eval) ++ vs.toArray) := by
        simp only [execOp, ho, resolve, hc, hfv, Deferred.ofValue]
        simp [invoke]
      rw [this, hent]
      congr 2
      simp
    unfold Oper.wp
    rw [hrun, Oper.upon_enter]
    refine hcall.mono ?_
    rintro en w' ⟨v, rfl, β', h1, h2⟩
    exact hnext β' _ w' (h1.put o.dst h2)
  · cases he

theorem sound_builtin (hR : R na β0 w0 σ β a w) (hb : Sub bx σ.box) {c : Call} (ho : o.op = .call c) {b : Builtin} (hc : c.callee = .builtin b)
    (he : eff P Φ dr σ.eval bx n o = some e) (hp : andO e.pre True) (hn : b = .append → Free na σ n) : StepOk P na β0 w0 (σ.apply o.dst e) o a w := by
  have hargs := evals_V hR c.args
  have hx := exec_builtin ho hc a
  unfold eff at he
  rw [ho] at he
  simp only [hc] at he
  unfold builtinEff at he
  cases b <;> simp only at he <;> try cases he
  case append =>
    split at he
    · rename_i t t' x y hty harg
      rw [harg] at hargs
      obtain ⟨u, v, huv, hu, hv⟩ := hargs.two
      split at he
      · rename_i htt
        subst htt
        have hrun : ∀ {r : Value} {w' : World}, (Builtin.append_ #[t, t] o.type #[u, v]).run P w = .ok r w' → (execOp a.eval o).run P w = .ok (.value r) w' := by
          intro r w' h
          rw [hx, toArray_of hty, toArray_of huv]
          simp only [builtin, Sem.run_bind, h, Result.andThen_ok, Sem.run_pure]
        have hap : ∃ β' w' r, (Builtin.append_ #[t, t] o.type #[u, v]).run P w = .ok r w' ∧ R na β0 w0 { σ with boxes := setBoxes σ.boxes e.upd } β' a w' ∧ V ⟨St.box { σ with boxes := setBoxes σ.boxes e.upd }, β', w'⟩ e.val r := by
          have he' := he
          unfold appendEff at he'
          split at he'
          · exact sound_append_nil hR hb hu hv he hp (hn rfl) o.type
          · exact sound_append_own hR hb hu hv he hp (hn rfl) o.type
          · cases he'
        obtain ⟨β', w', r, h1, h2, h3⟩ := hap
        exact StepOk.value (hrun h1) h2 h3
      · cases he
    · cases he
  case len =>
    split at he
    · rename_i t x hty harg
      rw [harg] at hargs
      obtain ⟨v, hv, hV⟩ := hargs.one
      obtain ⟨p, r, c', rfl, h1, h2⟩ := lenEff_ok hR hb hV he o.type
      refine StepOk.pure' hR (v := r) ?_ h2
      rw [hx, toArray_of hty, toArray_of hv]
      simp only [builtin, Sem.run_bind, h1, Result.andThen_ok, Sem.run_pure]
    · cases he
  case max =>
    split at he
    · rename_i x y harg
      rw [harg] at hargs
      obtain ⟨u, v, huv, hu, hv⟩ := hargs.two
      unfold maxEff at he
      split at he
      · split at he
        · rename_i e'; subst e'
          cases he
          obtain ⟨h1, h2, _, _⟩ := max2_V (P := P) (w := w) hu hv
          refine StepOk.pure' hR ?_ h2
          rw [hx, toArray_of huv]
          have h1' : ∀ tys ty, (Builtin.max_ tys ty #[u, v]).run P w = _ := fun tys ty => h1
          simp only [builtin, Sem.run_bind, h1', Result.andThen_ok, Sem.run_pure]
        · cases he
      · cases he
    · cases he
  case min =>
    split at he
    · rename_i x y harg
      rw [harg] at hargs
      obtain ⟨u, v, huv, hu, hv⟩ := hargs.two
      unfold minEff at he
      split at he
      · split at he
        · rename_i e'; subst e'
          cases he
          obtain ⟨_, _, h1, h2⟩ := max2_V (P := P) (w := w) hu hv
          refine StepOk.pure' hR ?_ h2
          rw [hx, toArray_of huv]
          have h1' : ∀ tys ty, (Builtin.min_ tys ty #[u, v]).run P w = _ := fun tys ty => h1
          simp only [builtin, Sem.run_bind, h1', Result.andThen_ok, Sem.run_pure]
        · cases he
      · cases he
    · cases he

theorem eff_sound (hR : R na β0 w0 σ β a w) (hb : Sub bx σ.box) (hInv : Inv w) (hΦ : PhiOk P Inv Φ)
    (he : eff P Φ dr σ.eval bx n o = some e) (hp : andO e.pre True) (hn : allocates o.op = true → Free na σ n) : StepOk P na β0 w0 (σ.apply o.dst e) o a w := by
  cases ho : o.op with
  | move x => exact sound_move hR (.inl ho) he
  | assign x => exact sound_move hR (.inr ho) he
  | pick c x y => exact sound_pick hR ho he
  | alloc t => exact sound_alloc hR ho he (hn (by rw [ho]; rfl))
  | box t x => exact sound_box hR ho he (hn (by rw [ho]; rfl))
  | build t ps => exact sound_build hR ho he
  | buildSlice t len ps => exact sound_buildSlice hR ho he (hn (by rw [ho]; rfl))
  | load t x => exact sound_load hR hb ho he hp
  | store t x y => exact sound_store hR hb ho he hp
  | binOp op t x y t' => exact sound_binOp hR ho he hp
  | unOp op t x => exact sound_unOp hR ho he
  | convert t t' x => exact sound_convert hR ho he
  | makeSlice t x y => exact sound_make hR ho he hp (hn (by rw [ho]; rfl))
  | slice t x lo hi mx => exact sound_slice hR hb ho he hp
  | fieldAddr t x f => exact sound_fieldAddr hR hb ho he
  | field t x f => exact sound_field hR ho he
  | indexAddr t x ix => exact sound_indexAddr hR hb ho he hp
  | extract x i => exact sound_extract hR ho he
  | makeFunc fn first captured => exact sound_makeFunc hR ho he
  | call c =>
    cases hc : c.callee with
    | value f => exact sound_value hR hb hInv hΦ ho hc he hp (hn (by rw [ho]; simp [allocates, hc]))
    | builtin b => exact sound_builtin hR hb ho hc he hp (fun e' => hn (by rw [ho]; simp [allocates, hc, e']))
    | invoke r m => unfold eff at he; rw [ho] at he; simp only [hc] at he; cases he
  | _ => unfold eff at he; rw [ho] at he; simp at he

end
end Go.AI
