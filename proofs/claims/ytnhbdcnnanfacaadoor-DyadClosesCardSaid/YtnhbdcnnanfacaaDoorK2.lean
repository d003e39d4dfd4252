/- My texts AIop7, AIop8, AIcall, AIcall2, AIeff, AIreg0, AIreg, AIdraw, AIview, AIcode, AIfun, in one. -/
import Derived.Test.YtnhbdcnnanfacaaDoorK1
namespace Go.AI
open Go Go.RowKit
set_option linter.unusedVariables false
set_option linter.unusedSimpArgs false

section
variable {P : Program} {na : Nat} {β0 : Nat → Nat → Prop} {w0 : World} {σ : St} {β : Nat → Nat → Prop} {a : Act} {w : World} {o : Oper} {bx : Nat → Box} {Φ : Nat → List AV → Option Spec} {dr : Bool} {n : Nat} {e : Eff}

/-- a new block that nobody but one value knows -/
theorem R.newArena (h : R na β0 w0 σ β a w) (hn : Free na σ n) (cs : Array Value) (T : TypeId) {w' : World} (hw' : w' = w.alloc (.cells cs T) ∨ w' = w.drew.alloc (.cells cs T)) :
    R na β0 w0 { σ with boxes := σ.boxes.set n .arena } (setβ β n (· = w.heap.size)) a w' ∧ Le ⟨σ.box, β, w⟩ ⟨St.box { σ with boxes := σ.boxes.set n .arena }, setβ β n (· = w.heap.size), w'⟩ ∧
    Ctx.born ⟨St.box { σ with boxes := σ.boxes.set n .arena }, setβ β n (· = w.heap.size), w'⟩ [n] ∧
    Ctx.inP ⟨St.box { σ with boxes := σ.boxes.set n .arena }, setβ β n (· = w.heap.size), w'⟩ [n] w.heap.size ∧ w'.heap[w.heap.size]? = some (.cells cs T (0, 0)) := by
  have hg : Grow w w' := by
    rcases hw' with rfl | rfl
    · exact Grow.alloc1 w cs T
    · exact ((Grow.refl w).drew).alloc cs T
  have hsz : w'.heap.size = w.heap.size + 1 := by rcases hw' with rfl | rfl <;> simp
  have hh : w'.heap[w.heap.size]? = some (.cells cs T (0, 0)) := by
    rcases hw' with rfl | rfl
    · exact heap_alloc_new w _
    · exact heap_alloc_new w.drew _
  refine ⟨h.newId hn.na hn.len hn.un .arena (· = w.heap.size) hg (by simp) (fun x hx => by subst hx; omega) trivial, Le.newId h hn.len hn.un .arena _ hg (by simp), fun i hi => ?_, ⟨n, by simp, (setβ_eq _ _ _ _).2 rfl⟩, hh⟩
  simp at hi
  subst hi
  show St.box _ i ≠ _
  rw [St.box_set _ _ _ _ hn.len, if_pos rfl]
  simp

theorem sound_buildSlice (hR : R na β0 w0 σ β a w) {t : TypeId} {len : Nat} {parts : Array (Nat × Operand)} (ho : o.op = .buildSlice t len parts)
    (he : eff P Φ na dr σ.eval bx n o = some e) (hn : Free na σ n) : StepOk P na β0 w0 (σ.apply o.dst e) o a w := by
  unfold eff at he
  rw [ho] at he
  simp only at he
  split at he
  · cases he
  · rename_i els hels
    split at he
    · rename_i hc
      obtain ⟨hc1, hc2⟩ := hc
      have hz := inOrder_zip _ 0 hels
      have hvs : Vs ⟨σ.box, β, w⟩ els (parts.toList.map fun x => a.eval x.2) := by
        have h1 : els = parts.toList.map fun x => σ.eval x.2 := by
          have := congrArg (List.map (·.2)) hz
          simp [Function.comp_def] at this
          exact this.symm
        rw [h1]
        refine Vs.of (by simp) fun i c v h1 h2 => ?_
        simp at h1 h2
        obtain ⟨x, y, hx, rfl⟩ := h1
        obtain ⟨x', y', hy, rfl⟩ := h2
        rw [hx] at hy
        cases hy
        exact hR.V_eval y
      have hparts : (parts.map fun (x : Nat × Operand) => (x.1, a.eval x.2)).toList = ((parts.toList.map fun x => a.eval x.2).zipIdx 0).map fun x => (x.2, x.1) := by
        apply List.ext_getElem?
        intro i
        have h2 := congrArg (fun l => (l[i]?).map (·.1)) hz
        simp at h2
        simp
        cases hp : parts[i]? with
        | none => simp [hp]
        | some x =>
          simp [hp] at h2 ⊢
          cases hel : els[i]? with
          | none => rw [hel] at h2; simp at h2
          | some y => rw [hel] at h2; simp at h2; exact h2
      have hlen : (parts.toList.map fun x => a.eval x.2).length = len := by rw [← hvs.length]; exact hc1
      split at he
      · rename_i hel
        obtain ⟨el, hu⟩ : ∃ el, u32Elem P t = some el := Option.isSome_iff_exists.1 hel
        obtain ⟨u1, u2, i, u3, u4, u5, u6⟩ := u32Elem_spec hu
        split at he
        · rename_i l hl
          obtain ⟨k1, k2, k3⟩ := allDigs_spec hvs hl
          have hone : ∀ u ∈ (parts.toList.map fun x => a.eval x.2), u.cells.size = 1 := by
            intro u hu'
            obtain ⟨j, hj⟩ := List.getElem?_of_mem hu'
            have hjl : j < l.length := by rw [k1]; exact (List.getElem?_eq_some_iff.1 hj).1
            have := k3 j l[j] (by simp [hjl])
            rw [hj] at this
            cases this
            rfl
          obtain ⟨cells, r1, r2, r3⟩ := run_buildSlice u1 u3 u4 u6 hc2 (by omega) _ _ hparts hlen hone w
          have hbase : (execOp a.eval o).run P w = .ok (.value (.slice (some ⟨w.heap.size, 0, none⟩) l.length len)) (w.alloc (.cells cells el)) := by
            simp only [execOp, ho, Sem.run_bind, r1, Result.andThen_ok, Sem.run_pure]
            rw [k1, hlen]
          split at he
          · rename_i hemp
            rw [hu] at he
            cases he
            have hl0 : l = [] := by simpa using hemp
            subst hl0
            have hlen0 : len = 0 := by rw [← hlen, ← k1]; rfl
            subst hlen0
            refine StepOk.value (v := .slice (some ⟨w.heap.size, 0, none⟩) ([] : List Nat).length 0) (σ' := { σ with boxes := σ.boxes.set n (.digs el []) }) (β' := setβ β n (· = w.heap.size)) (w' := w.alloc (.cells cells el)) hbase ?_ ?_
            · refine hR.newId hn.na hn.len hn.un _ _ (Grow.alloc1 w _ _) (by simp) (fun x hx => by subst hx; simp) ⟨fun x y hx hy => ?_, ⟨by simp, fun x hx => by simp at hx⟩, fun x hx => ?_⟩
              · rw [(setβ_eq _ _ _ _).1 hx, (setβ_eq _ _ _ _).1 hy]
              · have := (setβ_eq _ _ _ _).1 hx
                subst this
                exact ⟨_, heap_alloc_new w _, by simp, fun j y hj => by simp at hj⟩
            · simp only [V]
              rw [St.box_set _ _ _ _ hn.len, if_pos rfl]
              refine ⟨by simp, ⟨_, _, _, rfl⟩, fun T l' hl => .inr ⟨w.heap.size, 0, (setβ_eq _ _ _ _).2 rfl, ?_, ?_, ?_, ?_⟩⟩
              · cases hl; rfl
              · cases hl; simp
              · simp [maxLen]
              · cases hl; exact ⟨_, heap_alloc_new w _, by rw [r2, Nat.zero_mul]⟩
          cases he
          obtain ⟨q1, q2, q3, q4, q5⟩ := hR.newArena hn cells el (.inl rfl)
          refine StepOk.value (v := .slice (some ⟨w.heap.size, 0, none⟩) l.length len) ?_ q1 ?_
          · exact hbase
          · simp only [V]
            refine ⟨q3, ⟨by omega, k2⟩, _, _, rfl, fun _ => .inr ⟨w.heap.size, 0, cells, el, (0, 0), rfl, q4, q5, by omega, fun j hj => ?_, fun j x hj => ?_⟩⟩
            · omega
            have := r3 j _ 0 (.int .u32 (x : Int)) (k3 j x hj) rfl
            simpa using this
        · cases he
      · split at he
        · rename_i s hs
          split at he
          · rename_i hcond
            cases he
            obtain ⟨d1, d2, d3⟩ := hcond
            obtain ⟨el, i, z, u1, u3, u4, u6⟩ := elemSize_spec hs
            have hsz := allSize_spec hvs d3
            obtain ⟨cells, r1, r2, r3⟩ := run_buildSlice u1 u3 u4 u6 hc2 d2 _ _ hparts hlen hsz w
            obtain ⟨q1, q2, q3, q4, q5⟩ := hR.newArena hn cells el (.inl rfl)
            refine StepOk.value (v := .slice (some ⟨w.heap.size, 0, none⟩) els.length len) ?_ q1 ?_
            · simp only [execOp, ho, Sem.run_bind, r1, Result.andThen_ok, Sem.run_pure]
              rw [hc1]
            · simp only [V]
              refine ⟨q3, by omega, d1, _, _, _, rfl, Vs.mono q2 _ _ hvs, hsz, fun _ => .inr ⟨w.heap.size, 0, rfl, q4, by omega, fun i u j x hi hj => ?_⟩⟩
              rw [cell?_of_block q5, Nat.zero_add]
              exact r3 i u j x hi hj
          · cases he
        · cases he
    · cases he

theorem slice_elem {t : TypeId} {el : TypeId} (h : P.underlying t = some (.slice el)) : P.underlying t = some (.slice (P.elem t)) := by rw [elem_of h]; exact h

theorem exec_builtin {b : Builtin} {c : Call} (ho : o.op = .call c) (hc : c.callee = .builtin b) (a : Act) : execOp a.eval o = builtin b c.argTypes o.type (c.args.map fun | .const _ => true | _ => false) (c.args.map a.eval) := by
  simp only [execOp, ho, resolve, hc, invoke]
  rfl

theorem getD_some {xs : Array TypeId} {d : TypeDesc} (h : P.underlying (xs.getD 0 0) = some d) (hs : 0 < xs.size) : xs[0]? = some (xs.getD 0 0) := by
  simp [Array.getD, hs]

/-- the argument types of the builtin functions are as many as the arguments -/
theorem len_run {t : TypeId} {el : TypeId} (hu : P.underlying t = some (.slice el)) (base : Option Addr) (m c : Nat) (ty : TypeId) (w : World) :
    (Builtin.len_ #[t] ty #[.slice base m c]).run P w = .ok (.int .i64 m) w := run_len_slice w t ty base m c (slice_elem hu)

theorem natI64 {m : Nat} (h : m ≤ 2 ^ 45) (C : Ctx) : V C (.num .i64 (m : Int)) (.int .i64 (m : Int)) := by
  simp only [V]
  refine ⟨trivial, ?_, ?_⟩ <;> simp [IntKind.min, IntKind.max, IntKind.signed, IntKind.bits] <;> omega

theorem isSliceT_spec {t : TypeId} (h : isSliceT P t = true) : ∃ el, P.underlying t = some (.slice el) := by
  unfold isSliceT at h
  split at h
  · rename_i el hu; exact ⟨el, hu⟩
  · cases h

theorem toArray_of {α : Type} {xs : Array α} {l : List α} (h : xs.toList = l) : xs = l.toArray := by rw [← h]

theorem Vs.one {C : Ctx} {x : AV} {vs : List Value} (h : Vs C [x] vs) : ∃ v, vs = [v] ∧ V C x v := by
  cases vs with
  | nil => simp only [Vs] at h
  | cons v vs =>
    cases vs with
    | nil => simp only [Vs] at h; exact ⟨v, rfl, h.1⟩
    | cons u us => simp only [Vs] at h; exact h.2.elim

theorem Vs.two {C : Ctx} {x y : AV} {vs : List Value} (h : Vs C [x, y] vs) : ∃ u v, vs = [u, v] ∧ V C x u ∧ V C y v := by
  cases vs with
  | nil => simp only [Vs] at h
  | cons v vs =>
    simp only [Vs] at h
    obtain ⟨u, rfl, hu⟩ := Vs.one (show Vs C [y] vs from h.2)
    exact ⟨v, u, rfl, h.1, hu⟩

theorem lenEff_ok (hR : R na β0 w0 σ β a w) (hb : Sub bx σ.box) {t : TypeId} {x : AV} {v : Value} (hV : V ⟨σ.box, β, w⟩ x v) (he : lenEff P bx t x = some e) (ty : TypeId) :
    ∃ p r c, e = ⟨p, c, []⟩ ∧ (Builtin.len_ #[t] ty #[v]).run P w = .ok r w ∧ V ⟨σ.box, β, w⟩ c r := by
  unfold lenEff at he
  split at he
  · rename_i p l
    split at he
    · rename_i h
      simp only [Bool.and_eq_true] at h
      cases he
      obtain ⟨el, hu⟩ := isSliceT_spec h.1
      simp only [V] at hV
      obtain ⟨_, hok, base, cap, rfl, _⟩ := hV
      exact ⟨_, _, _, rfl, len_run hu base _ cap ty w, natI64 hok.1 _⟩
    · cases he
  · rename_i b
    split at he
    · rename_i T l hbx
      split at he
      · rename_i h
        cases he
        obtain ⟨el, hu⟩ := isSliceT_spec h
        have hσ := hb.digs hbx
        have hok := hR.boxes b
        rw [hσ] at hok
        simp only [V] at hV
        rcases hV.2.2 T l hσ with ⟨rfl, rfl⟩ | ⟨blk, cap, _, rfl, _⟩
        · exact ⟨_, _, _, rfl, len_run hu none 0 0 ty w, natI64 (m := 0) (by omega) _⟩
        · exact ⟨_, _, _, rfl, len_run hu _ _ cap ty w, natI64 hok.2.1.1 _⟩
      · cases he
    · cases he
  · split at he
    · rename_i h
      cases he
      obtain ⟨el, hu⟩ := isSliceT_spec h
      simp only [V] at hV
      subst hV
      exact ⟨_, _, _, rfl, len_run hu none 0 0 ty w, natI64 (m := 0) (by omega) _⟩
    · cases he
  · rename_i p s l
    split at he
    · rename_i h
      simp only [Bool.and_eq_true] at h
      cases he
      obtain ⟨el, hu⟩ := isSliceT_spec h.1
      simp only [V] at hV
      obtain ⟨_, hlen, _, base, cap, us, rfl, _⟩ := hV
      exact ⟨_, _, _, rfl, len_run hu base _ cap ty w, natI64 hlen _⟩
    · cases he
  · rename_i b gc lo len
    split at he
    · rename_i T l hbx
      split at he
      · rename_i h
        cases he
        obtain ⟨el, hu⟩ := isSliceT_spec h
        have hσ := hb.digs hbx
        have hok := hR.boxes b
        rw [hσ] at hok
        simp only [V] at hV
        obtain ⟨_, g, cap, _, rfl, _, hd⟩ := hV
        have h2 := (hd T l hσ).2.1
        have h3 := hok.2.1.1
        exact ⟨_, _, _, rfl, len_run hu _ _ cap ty w, natI64 (by omega) _⟩
      · cases he
    · cases he
  · cases he

theorem max2_V {C : Ctx} {k : IntKind} {x y : Int} {u v : Value} (hx : V C (.num k x) u) (hy : V C (.num k y) v) :
    (Builtin.max_ #[] 0 #[u, v]).run P w = .ok (.int k (if y > x then y else x)) w ∧ V C (.num k (if y > x then y else x)) (.int k (if y > x then y else x)) ∧
    (Builtin.min_ #[] 0 #[u, v]).run P w = .ok (.int k (if y < x then y else x)) w ∧ V C (.num k (if y < x then y else x)) (.int k (if y < x then y else x)) := by
  simp only [V] at hx hy
  obtain ⟨rfl, h1, h2⟩ := hx
  obtain ⟨rfl, h3, h4⟩ := hy
  refine ⟨by simp [Builtin.max_, Builtin.max2], ?_, by simp [Builtin.min_, Builtin.min2], ?_⟩
  · simp only [V]; refine ⟨trivial, ?_, ?_⟩ <;> split <;> assumption
  · simp only [V]; refine ⟨trivial, ?_, ?_⟩ <;> split <;> assumption

end
end Go.AI

namespace Go.AI
open Go Go.RowKit
set_option linter.unusedVariables false
set_option linter.unusedSimpArgs false

section
variable {P : Program} {na : Nat} {β0 : Nat → Nat → Prop} {w0 : World} {σ : St} {β : Nat → Nat → Prop} {a : Act} {w : World} {o : Oper} {bx : Nat → Box} {Φ : Nat → List AV → Option Spec} {dr : Bool} {n : Nat} {e : Eff}

/-- a box goes over into a new number; its block may have been written to -/
theorem R.move (h : R na β0 w0 σ β a w) {b : Nat} {T : TypeId} {l : List Nat} (hb : σ.box b = .digs T l) (hn : Free na σ n) (nb : Box) (hnb : nb ≠ .unborn) (s : Nat → Prop) {w' : World}
    (hs : ∀ x, s x → β b x ∨ (w.heap.size ≤ x ∧ x < w'.heap.size))
    (hoth : ∀ x, x < w.heap.size → ¬ β b x → w'.heap[x]? = w.heap[x]?) (hg : GrowS (β0 (na + 1)) w0 w') (hsz : w.heap.size ≤ w'.heap.size)
    (hok : BoxOk ⟨St.box { σ with boxes := (σ.boxes.set b .dead).set n nb }, setβ (setβ β b fun _ => False) n s, w'⟩ n nb) :
    R na β0 w0 { σ with boxes := (σ.boxes.set b .dead).set n nb } (setβ (setβ β b fun _ => False) n s) a w' := by
  have hna := h.na_lt (i := b) (by rw [hb]; simp)
  have hlb := h.len (i := b) (by rw [hb]; simp)
  have hbn : b ≠ n := fun e => by have := hn.un; rw [← e, hb] at this; simp at this
  have hlen : n < (σ.boxes.set b .dead).length := by simpa using hn.len
  have hbox : ∀ i, St.box { σ with boxes := (σ.boxes.set b .dead).set n nb } i = if i = n then nb else if i = b then .dead else σ.box i := by
    intro i
    have h1 := box_set (σ.boxes.set b .dead) n i nb hlen
    have h2 := box_set σ.boxes b i .dead hlb
    show List.getD _ _ _ = _
    rw [h1, h2]
    rfl
  have hβ : ∀ i x, i ≠ n → i ≠ b → (setβ (setβ β b fun _ => False) n s i x ↔ β i x) := by
    intro i x h1 h2
    rw [setβ_other _ _ h1, setβ_other _ _ h2]
  have hβb : ∀ x, ¬ setβ (setβ β b fun _ => False) n s b x := by
    intro x
    rw [setβ_other _ _ hbn, setβ_same]
    exact fun h => h
  have dis : ∀ i x, i ≠ b → β i x → ¬ β b x := by
    intro i x hi hx hy
    by_cases h' : i ≤ na
    · exact h.apart h' hna hx hy
    · exact hi (h.disj i b x (by omega) hna hx hy)
  have hle : Le ⟨σ.box, β, w⟩ ⟨St.box { σ with boxes := (σ.boxes.set b .dead).set n nb }, setβ (setβ β b fun _ => False) n s, w'⟩ := by
    have ne : ∀ i, σ.box i ≠ .unborn → i ≠ n := fun i hi e => hi (e ▸ hn.un)
    refine ⟨fun i hi => ?_, fun i hi ha => ?_, fun i T' l' hi hd => ?_, fun i c' hi hc => ?_⟩
    · show St.box _ i ≠ _
      rw [hbox, if_neg (ne i hi)]
      split
      · simp
      · exact hi
    · change St.box _ i = _ at ha
      rw [hbox, if_neg (ne i hi)] at ha
      split at ha
      · simp at ha
      · rename_i e
        exact ⟨ha, fun x hx => ⟨(hβ i x (ne i hi) e).2 hx, hoth x (h.lt hx) (dis i x e hx)⟩⟩
    · change St.box _ i = _ at hd
      rw [hbox, if_neg (ne i hi)] at hd
      split at hd
      · simp at hd
      · rename_i e
        exact ⟨l', hd, rfl, fun x hx => ⟨(hβ i x (ne i hi) e).2 hx, fun cs hc => ⟨cs, (hoth x (h.lt hx) (dis i x e hx)).trans hc, rfl⟩⟩⟩
    · change St.box _ i = _ at hc
      rw [hbox, if_neg (ne i hi)] at hc
      split at hc
      · simp at hc
      · rename_i e
        exact ⟨c', hc, fun x hx => (hβ i x (ne i hi) e).2 hx⟩
  have hns : ∀ x, s x → (w0.heap.size ≤ x ∨ β0 (na + 1) x) ∧ x < w'.heap.size := by
    intro x hx
    have := h.grow.meta0.size
    rcases hs x hx with hx | hx
    · have := h.new b x hna hx; exact ⟨this.1, by omega⟩
    · exact ⟨.inl (by omega), by omega⟩
  refine ⟨Vs.mono hle _ _ h.tmps, h.defers, fun i => ?_, fun i hi => ?_, fun i x hi hx => ?_, fun i x hi hx => ?_, fun i j x hi hj hx hy => ?_, fun i x hi hx => ?_, hg, fun i x hi hx => h.arg0 i x hi (by have := hn.na; rwa [hβ i x (by omega) (by omega)] at hx)⟩
  · rw [hbox]
    split
    · rename_i e; subst e; exact hok
    · rename_i e
      split
      · trivial
      · rename_i f
        exact (h.boxes i).mono hle (fun x => hβ i x e f) (fun x hx => hoth x (h.lt hx) (dis i x f hx))
  · have := hn.na
    rw [hbox, if_neg (by omega), if_neg (by omega)]; exact h.args i hi
  · have := hn.na
    rw [hβ i x (by omega) (by omega)] at hx; exact h.old i x hi hx
  · by_cases e : i = n
    · subst e
      rw [setβ_same] at hx
      exact hns x hx
    · by_cases f : i = b
      · subst f; exact absurd hx (hβb x)
      · rw [hβ i x e f] at hx
        have := h.new i x hi hx
        exact ⟨this.1, by omega⟩
  · have hnb : ∀ j, na < j → setβ (setβ β b fun _ => False) n s j x → (j = n ∧ s x) ∨ (j ≠ n ∧ j ≠ b ∧ β j x) := by
      intro j hj hx
      by_cases e : j = n
      · subst e; rw [setβ_same] at hx; exact .inl ⟨rfl, hx⟩
      · by_cases f : j = b
        · subst f; exact absurd hx (hβb x)
        · rw [hβ j x e f] at hx; exact .inr ⟨e, f, hx⟩
    have key : ∀ j, na < j → j ≠ b → β j x → s x → False := by
      intro j hj hjb hx hy
      rcases hs x hy with hy | hy
      · exact dis j x hjb hx hy
      · have := h.lt hx; omega
    rcases hnb i hi hx with ⟨e1, s1⟩ | ⟨e1, f1, x1⟩ <;> rcases hnb j hj hy with ⟨e2, s2⟩ | ⟨e2, f2, x2⟩
    · omega
    · exact (key j hj f2 x2 s1).elim
    · exact (key i hi f1 x1 s2).elim
    · exact h.disj i j x hi hj x1 x2
  · rw [hbox] at hi
    split at hi
    · exact hnb hi
    · rename_i e
      split at hi
      · simp at hi
      · rename_i f
        rw [hβ i x e f] at hx
        exact h.unborn i x hi hx

theorem digCells {f : Nat → Prop} {base : Option Addr} {cap : Nat} {l : List Nat} (h : DigAt w f base cap l) (h0 : 0 < l.length) :
    ∃ b off, base = some ⟨b, off, none⟩ ∧ f b ∧ b < w.heap.size ∧ ∀ (j : Nat) (u : Value), (l.map fun (x : Nat) => Value.int .u32 (x : Int))[j]? = some u → w.cell? ((⟨b, off, none⟩ : Addr).add j) = some u := by
  rcases h with ⟨_, h2⟩ | ⟨b, off, cells, T, fr, h1, h2, h3, h4, h6, h5⟩
  · subst h2; simp at h0
  · refine ⟨b, off, h1, h2, lt_of_block h3, fun j u hj => ?_⟩
    rw [add_none, cell?_of_block h3]
    simp at hj
    obtain ⟨x, hx, rfl⟩ := hj
    exact h5 j x hx

theorem zeros_size (n : Nat) : (Builtin.zeroCells (Value.int .u32 0).cells n).size = n := by simp [Builtin.zeroCells, Value.cells]

theorem get_front (l : List Nat) (rest : Array Value) (j x : Nat) (h : l[j]? = some x) : ((l.map fun (x : Nat) => Value.int .u32 (x : Int)).toArray ++ rest)[j]? = some (.int .u32 (x : Int)) := by
  have hj : j < l.length := (List.getElem?_eq_some_iff.1 h).1
  rw [Array.getElem?_append_left (by simpa using hj)]
  simp [h]

theorem sound_append_nil (hR : R na β0 w0 σ β a w) (hb : Sub bx σ.box) {t : TypeId} {p : List Nat} {l : List Nat} {u v : Value} (hu : V ⟨σ.box, β, w⟩ .nilS u) (hv : V ⟨σ.box, β, w⟩ (.dig p l) v)
    (he : appendEff P bx n t .nilS (.dig p l) = some e) (hp : andO e.pre True) (hn : Free na σ n) (ty : TypeId) :
    ∃ β' w' r, (Builtin.append_ #[t, t] ty #[u, v]).run P w = .ok r w' ∧ R na β0 w0 { σ with boxes := setBoxes σ.boxes e.upd } β' a w' ∧ V ⟨St.box { σ with boxes := setBoxes σ.boxes e.upd }, β', w'⟩ e.val r := by
  simp only [appendEff] at he
  split at he
  · rename_i el hu32
    split at he
    · rename_i har
      cases he
      obtain ⟨u1, u2, i, u3, u4, u5, u6⟩ := u32Elem_spec hu32
      simp only [V] at hu hv
      obtain ⟨hbn, hok, base, cap, rfl, hd⟩ := hv
      subst hu
      have hdig := hd (alive_of hb β w har)
      have hlen : l.length ≤ 2 ^ 40 := hp.1
      by_cases h0 : 0 < l.length
      · obtain ⟨b, off, rfl, hin, hblt, hcells⟩ := digCells hdig h0
        have hrun := run_append_nil (P := P) w t ty el i _ u1 u3 u6 ⟨b, off, none⟩ l.length cap (l.map fun (x : Nat) => Value.int .u32 (x : Int)) (by simp [u4]) hcells h0 (by omega) (by rw [u5]; omega)
        obtain ⟨q1, q2, q3, q4, q5⟩ := hR.newArena hn _ el (.inr rfl)
        refine ⟨_, _, _, hrun, q1, ?_⟩
        simp only [V]
        exact ⟨q3, hok, _, _, rfl, fun _ => .inr ⟨w.heap.size, 0, _, el, (0, 0), rfl, q4, q5, grownCap_ge _ _ _ _, fun j hj => by rw [Array.size_append, zeros_size]; have := grownCap_ge w l.length 0 el; simp; omega, fun j x hj => by rw [Nat.zero_add]; exact get_front l _ j x hj⟩⟩
      · have hl : l = [] := List.eq_nil_of_length_eq_zero (by omega)
        subst hl
        have hrun : (Builtin.append_ #[t, t] ty #[.slice none 0 0, .slice base ([] : List Nat).length cap]).run P w = .ok (.slice none 0 0) w := by
          cases base <;> simp [Builtin.append_, run_underlying u1, sizeOf, typeInfo, u3, Builtin.lenOf, Builtin.firstCells, loadCells, loadCellsFrom]
        have hq := hR.newId hn.na hn.len hn.un .arena (fun _ => False) (Grow.refl w) (by simp) (fun x hx => hx.elim) trivial
        refine ⟨_, _, _, hrun, hq, ?_⟩
        simp only [V]
        refine ⟨fun j hj => ?_, hok, none, 0, by simp, fun _ => .inl ⟨rfl, rfl⟩⟩
        simp at hj
        subst hj
        show St.box _ j ≠ _
        rw [show setBoxes σ.boxes [(j, Box.arena)] = σ.boxes.set j .arena from rfl, St.box_set _ _ _ _ hn.len, if_pos rfl]
        simp
    · cases he
  · cases he

theorem sound_append_own (hR : R na β0 w0 σ β a w) (hb : Sub bx σ.box) {t : TypeId} {p : List Nat} {xs : List Nat} {b : Nat} {u v : Value} (hu : V ⟨σ.box, β, w⟩ (.own b) u) (hv : V ⟨σ.box, β, w⟩ (.dig p xs) v)
    (he : appendEff P bx n t (.own b) (.dig p xs) = some e) (hp : andO e.pre True) (hn : Free na σ n) (ty : TypeId) :
    ∃ β' w' r, (Builtin.append_ #[t, t] ty #[u, v]).run P w = .ok r w' ∧ R na β0 w0 { σ with boxes := setBoxes σ.boxes e.upd } β' a w' ∧ V ⟨St.box { σ with boxes := setBoxes σ.boxes e.upd }, β', w'⟩ e.val r := by
  simp only [appendEff] at he
  split at he
  · rename_i T l el hbx hu32
    split at he
    · rename_i hc
      simp only [Bool.and_eq_true, decide_eq_true_eq] at hc
      obtain ⟨rfl, har⟩ := hc
      cases he
      obtain ⟨u1, u2, i, u3, u4, u5, u6⟩ := u32Elem_spec hu32
      have hσ := hb.digs hbx
      have hna := hR.na_lt (i := b) (by rw [hσ]; simp)
      have hlb := hR.len (i := b) (by rw [hσ]; simp)
      have hbok := hR.boxes b
      rw [hσ] at hbok
      obtain ⟨hb1, hb2, hb3⟩ := hbok
      simp only [V] at hu hv
      obtain ⟨hbn, hok, base, cap, rfl, hd⟩ := hv
      have hdig := hd (alive_of hb β w har)
      obtain ⟨⟨-, hlen⟩, _⟩ := hp
      have hokl : okDig (l ++ xs) := ⟨by simp; omega, fun x hx => (List.mem_append.1 hx).elim (hb2.2 x) (hok.2 x)⟩
      have hbn' : b ≠ n := fun e => by have := hn.un; rw [← e, hσ] at this; simp at this
      have hlen' : n < (σ.boxes.set b .dead).length := by simpa using hn.len
      have hboxn : ∀ nb, St.box { σ with boxes := (σ.boxes.set b .dead).set n nb } n = nb := fun nb => by
        show List.getD _ _ _ = _
        rw [box_set _ _ _ _ hlen', if_pos rfl]
      have fin : ∀ (w' : World) (g cp : Nat) (cs : Array Value) (s : Nat → Prop) (hs : ∀ x, s x ↔ x = g) (hsb : β b g ∨ (w.heap.size ≤ g ∧ g < w'.heap.size)) (hoth : ∀ x, x < w.heap.size → ¬ β b x → w'.heap[x]? = w.heap[x]?)
          (hg : GrowS (β0 (na + 1)) w0 w') (hsz : w.heap.size ≤ w'.heap.size) (hcs : w'.heap[g]? = some (.cells cs T (0, 0))) (hcap : cp = cs.size) (hle : l.length + xs.length ≤ cp) (hmax : cp ≤ maxLen)
          (hget : ∀ (j x : Nat), (l ++ xs)[j]? = some x → cs[j]? = some (.int .u32 (x : Int))),
          R na β0 w0 { σ with boxes := (σ.boxes.set b .dead).set n (.digs T (l ++ xs)) } (setβ (setβ β b fun _ => False) n s) a w' ∧
          V ⟨St.box { σ with boxes := (σ.boxes.set b .dead).set n (.digs T (l ++ xs)) }, setβ (setβ β b fun _ => False) n s, w'⟩ (.own n) (.slice (some ⟨g, 0, none⟩) (l ++ xs).length cp) := by
        intro w' g cp cs s hs hsb hoth hg hsz hcs hcap hle hmax hget
        refine ⟨hR.move hσ hn _ (by simp) s (fun x hx => by rw [(hs x).1 hx]; exact hsb) hoth hg hsz ⟨fun x y hx hy => ?_, hokl, fun x hx => ?_⟩, ?_⟩
        · have h1 := (setβ_same _ _ _ _).1 hx
          have h2 := (setβ_same _ _ _ _).1 hy
          rw [(hs x).1 h1, (hs y).1 h2]
        · have h1 := (setβ_same _ _ _ _).1 hx
          rw [(hs x).1 h1]
          exact ⟨cs, hcs, by simp; omega, hget⟩
        · simp only [V]
          rw [hboxn]
          refine ⟨by simp, ⟨_, _, _, rfl⟩, fun T' l' hl => ?_⟩
          cases hl
          exact .inr ⟨g, cp, (setβ_same _ _ _ _).2 ((hs g).2 rfl), rfl, by simp; omega, hmax, cs, hcs, hcap⟩
      have hgrow : ∀ cs : Array Value, Grow w (w.drew.alloc (.cells cs T)) := fun cs => ((Grow.refl w).drew).alloc cs T
      by_cases hx0 : xs = []
      · subst hx0
        rcases hu.2.2 T l hσ with ⟨rfl, rfl⟩ | ⟨blk, cp, g1, rfl, g2, g3, cs, g4, g5⟩
        · have hrun : (Builtin.append_ #[t, t] ty #[.slice none 0 0, .slice base ([] : List Nat).length cap]).run P w = .ok (.slice none 0 0) w := by
            cases base <;> simp [Builtin.append_, run_underlying u1, sizeOf, typeInfo, u3, Builtin.lenOf, Builtin.firstCells, loadCells, loadCellsFrom]
          have hfalse : ∀ x, setβ (setβ β b fun _ => False) n (fun _ => False) n x → False := fun x hx => (setβ_same _ _ _ _).1 hx
          refine ⟨_, _, _, hrun, hR.move hσ hn (.digs T ([] ++ [])) (by simp) (fun _ => False) (fun x hx => hx.elim) (fun x hx _ => rfl) hR.grow (Nat.le_refl _) ⟨fun x y hx _ => (hfalse x hx).elim, hokl, fun x hx => (hfalse x hx).elim⟩, ?_⟩
          simp only [V]
          rw [show setBoxes σ.boxes [(b, Box.dead), (n, Box.digs T ([] ++ []))] = (σ.boxes.set b .dead).set n (.digs T ([] ++ [])) from rfl, hboxn]
          exact ⟨by simp, ⟨_, _, _, rfl⟩, fun T' l' hl => by cases hl; exact .inl (by simp)⟩
        · have hrun : (Builtin.append_ #[t, t] ty #[.slice (some ⟨blk, 0, none⟩) l.length cp, .slice base ([] : List Nat).length cap]).run P w = .ok (.slice (some ⟨blk, 0, none⟩) (l ++ []).length cp) w := by
            cases base <;> simp [Builtin.append_, run_underlying u1, sizeOf, typeInfo, u3, Builtin.lenOf, Builtin.firstCells, loadCells, loadCellsFrom, g2, storeCells]
          obtain ⟨f1, f2⟩ := fin w blk cp cs (· = blk) (fun x => Iff.rfl) (.inl g1) (fun _ _ _ => rfl) hR.grow (Nat.le_refl _) g4 g5 (by simpa using g2) g3 (fun j x hj => by
            obtain ⟨cs', hc', h4, h5⟩ := hb3 blk g1
            rw [g4] at hc'
            cases hc'
            exact h5 j x (by simpa using hj))
          exact ⟨_, _, _, hrun, f1, f2⟩
      have h0 : 0 < xs.length := List.length_pos_iff.2 hx0
      obtain ⟨xb, xoff, rfl, hin, hxlt, hcells⟩ := digCells hdig h0
      rcases hu.2.2 T l hσ with ⟨rfl, rfl⟩ | ⟨blk, cp, g1, rfl, g2, g3, cs, g4, g5⟩
      · have hrun := run_append_nil (P := P) w t ty T i _ u1 u3 u6 ⟨xb, xoff, none⟩ xs.length cap (xs.map fun (x : Nat) => Value.int .u32 (x : Int)) (by simp [u4]) hcells h0 (by omega) (by rw [u5]; omega)
        have hge := grownCap_ge w xs.length 0 T
        obtain ⟨C, hC⟩ : ∃ C, C = ((xs.map fun (x : Nat) => Value.int .u32 (x : Int)).toArray ++ Builtin.zeroCells (Value.int .u32 0).cells (grownCap w xs.length 0 T - xs.length)) := ⟨_, rfl⟩
        rw [← hC] at hrun
        obtain ⟨f1, f2⟩ := fin (w.drew.alloc (.cells C T)) w.heap.size (grownCap w xs.length 0 T) C (· = w.heap.size) (fun x => Iff.rfl) (.inr ⟨Nat.le_refl _, by simp⟩) (fun x hx _ => (hgrow _).below.block x hx) (hR.grow.trans (hgrow _)) (by simp) (heap_alloc_new w.drew _)
          (by rw [hC]; simp [zeros_size]; omega) (by simpa using hge) (grownCap_le_maxLen _ _ _ _ (by simp only [maxLen]; omega)) (fun j x hj => by rw [hC]; exact get_front xs _ j x hj)
        exact ⟨_, _, _, hrun, f1, f2⟩
      · obtain ⟨cs', hc', h4, h5⟩ := hb3 blk g1
        rw [g4] at hc'
        cases hc'
        by_cases hroom : l.length + xs.length ≤ cp
        · have hrun := run_append_room (P := P) w t ty T i u1 u3 blk l.length cp cs g4 ⟨xb, xoff, none⟩ xs.length cap (xs.map fun (x : Nat) => Value.int .u32 (x : Int)) (by simp [u4]) hcells (fun y hy => by simp at hy; obtain ⟨x, _, rfl⟩ := hy; rfl) hroom (by simp [u4]; omega)
          rw [u4, Nat.mul_one] at hrun
          obtain ⟨C, hC⟩ : ∃ C, C = (cs.toList.take l.length ++ (xs.map fun (x : Nat) => Value.int .u32 (x : Int)) ++ cs.toList.drop (l.length + (xs.map fun (x : Nat) => Value.int .u32 (x : Int)).length)).toArray := ⟨_, rfl⟩
          rw [← hC] at hrun
          obtain ⟨f1, f2⟩ := fin (w.setRow blk C) blk cp C (· = blk) (fun x => Iff.rfl) (.inl g1) (fun x hx hne => setRow_other _ _ _ _ (fun e => hne (e ▸ g1))) (setRow_grow hR.grow (hR.new b blk hna g1).1 g4 (by rw [hC]; simp; omega)) (by simp) (setRow_heap w blk cs _ T (0, 0) g4)
            (by rw [hC]; simp; omega) hroom g3 (fun j x hj => by
              rw [hC, List.getElem?_toArray]
              rw [List.getElem?_append] at hj
              rw [List.append_assoc]
              split at hj
              · rename_i hjl
                rw [List.getElem?_append_left (by simp; omega), List.getElem?_take, if_pos hjl]
                simpa using h5 j x hj
              · rename_i hjl
                have hjx : j - l.length < xs.length := (List.getElem?_eq_some_iff.1 hj).1
                rw [List.getElem?_append_right (by simp; omega), List.getElem?_append_left (by simp; omega)]
                have e1 : (cs.toList.take l.length).length = l.length := by simp; omega
                rw [e1]
                simp [hj])
          rw [List.length_append] at f2
          exact ⟨_, _, _, hrun, f1, f2⟩
        · have holds : ∀ (j : Nat) (y : Value), (l.map fun (x : Nat) => Value.int .u32 (x : Int))[j]? = some y → w.cell? ((⟨blk, 0, none⟩ : Addr).add j) = some y := by
            intro j y hj
            rw [add_none, cell?_of_block g4, Nat.zero_add]
            simp at hj
            obtain ⟨x, hx, rfl⟩ := hj
            exact h5 j x hx
          have hfit : Builtin.nextslicecap (l.length + xs.length) cp * i.bytes ≤ 281474976710656 := growslice_fits (by omega) (by rw [u5]; omega)
          have hrun := run_append_grow (P := P) w t ty T i _ u1 u3 u6 ⟨blk, 0, none⟩ l.length cp (l.map fun (x : Nat) => Value.int .u32 (x : Int)) (by simp [u4]) holds ⟨xb, xoff, none⟩ xs.length cap (xs.map fun (x : Nat) => Value.int .u32 (x : Int)) (by simp [u4]) hcells (by omega) (by omega) hfit
          have hge := grownCap_ge w (l.length + xs.length) cp T
          obtain ⟨C, hC⟩ : ∃ C, C = ((l.map fun (x : Nat) => Value.int .u32 (x : Int)).toArray ++ (xs.map fun (x : Nat) => Value.int .u32 (x : Int)).toArray ++ Builtin.zeroCells (Value.int .u32 0).cells (grownCap w (l.length + xs.length) cp T - (l.length + xs.length))) := ⟨_, rfl⟩
          rw [← hC] at hrun
          obtain ⟨f1, f2⟩ := fin (w.drew.alloc (.cells C T)) w.heap.size (grownCap w (l.length + xs.length) cp T) C (· = w.heap.size) (fun x => Iff.rfl) (.inr ⟨Nat.le_refl _, by simp⟩) (fun x hx _ => (hgrow _).below.block x hx) (hR.grow.trans (hgrow _)) (by simp) (heap_alloc_new w.drew _)
            (by rw [hC]; simp [zeros_size]; omega) hge (grownCap_le_maxLen _ _ _ _ (by simp only [maxLen]; omega)) (fun j x hj => by
              rw [hC]
              have := get_front (l ++ xs) (Builtin.zeroCells (Value.int .u32 0).cells (grownCap w (l.length + xs.length) cp T - (l.length + xs.length))) j x hj
              simpa using this)
          rw [List.length_append] at f2
          exact ⟨_, _, _, hrun, f1, f2⟩
    · cases he
  · cases he

end
end Go.AI

namespace Go.AI
open Go Go.RowKit
set_option linter.unusedVariables false
set_option linter.unusedSimpArgs false

def Enters (P : Program) (f : Nat) : Prop := ∀ args w, (callFunc f args).run P w = .ok (.enter f args) w

def argBs (na : Nat) : Nat → Box := fun i => if i ≤ na then .arena else .unborn
def resβ (w w' : World) (β : Nat → Nat → Prop) : Nat → Nat → Prop := fun i x => if i = 0 then w.heap.size ≤ x ∧ x < w'.heap.size else β i x

/-- blocks among S hold something else, but lie as they did; all others hold what they held -/
structure Turn (S : Nat → Prop) (w w' : World) : Prop where
  meta0 : Below 0 w w'
  other : ∀ x, x < w.heap.size → ¬ S x → w'.heap[x]? = w.heap[x]?
  inS : ∀ x c T, S x → w.heap[x]? = some (.cells c T (0, 0)) → ∃ c' : Array Value, w'.heap[x]? = some (.cells c' T (0, 0)) ∧ c'.size = c.size
  fresh : ∀ k, w.heap.size ≤ k → k < w'.heap.size → ∃ c T, w'.heap[k]? = some (.cells c T (0, 0))

theorem Turn.mono {S S' : Nat → Prop} {w w' : World} (h : Turn S w w') (hS : ∀ x, S x → S' x) : Turn S' w w' :=
  ⟨h.meta0, fun x hl hx => h.other x hl fun hs => hx (hS x hs), fun x c T _ hc => by
    by_cases hs : S x
    · exact h.inS x c T hs hc
    · exact ⟨c, (h.other x (Array.getElem?_eq_some_iff.1 hc).1 hs).trans hc, rfl⟩, h.fresh⟩

/-- these digits lie at the beginning of the block g -/
def HandAt (w : World) (T : TypeId) (L : List Nat) (g : Nat) : Prop :=
  ∃ cs : Array Value, w.heap[g]? = some (.cells cs T (0, 0)) ∧ L.length ≤ cs.size ∧ ∀ (j y : Nat), L[j]? = some y → cs[j]? = some (.int .u32 (y : Int))

/-- what a call whose first argument may be written answers -/
def HandRes (g cap lo len : Nat) : AV → Value → Prop
  | .num k d, v => v = .int k d ∧ k.min ≤ d ∧ d ≤ k.max
  | .addr _ k, v => v = .slice (some ⟨g, lo, none⟩) k cap ∧ k ≤ len
  | _, _ => False

/-- a slice of one's own: nil, or a new block -/
def OwnAt (w w' : World) (T : TypeId) (l : List Nat) (v : Value) : Prop :=
  (v = .slice none 0 0 ∧ l = []) ∨ ∃ (g : Nat) (cs : Array Value), w.heap.size ≤ g ∧ g < w'.heap.size ∧ w'.heap[g]? = some (.cells cs T (0, 0)) ∧ v = .slice (some ⟨g, 0, none⟩) l.length cs.size ∧ l.length ≤ cs.size ∧ cs.size ≤ maxLen ∧
    ∀ (j y : Nat), l[j]? = some y → cs[j]? = some (.int .u32 (y : Int))

/-- what holds when a call has returned; a result '.boxv []' says that the memory of the arguments is written over, '.boxv (L :: r :: _)' that the first argument's block begins with the digits L and r is what is told -/
def After (args : List AV) (res : AV) (w w' : World) (β : Nat → Nat → Prop) (cargs : List Value) (v : Value) : Prop := match kindOf res with
  | 0 => Grow w w' ∧ V ⟨fun _ => .arena, resβ w w' β, w'⟩ res v
  | 1 => v = .tuple #[] ∧ Turn (fun x => ∃ i, β i x) w w'
  | 2 => match args, res with
    | .handv T L _ lo len :: _, .boxv [.dig _ L', r] => ∃ g cap tl, cargs = .slice (some ⟨g, lo, none⟩) len cap :: tl ∧ GrowS (· = g) w w' ∧ L'.length = L.length ∧ okDig L' ∧ HandAt w' T L' g ∧ HandRes g cap lo len r v
    | _, _ => False
  | _ => match res with
    | .grown T l => Grow w w' ∧ okDig l ∧ OwnAt w w' T l v
    | _ => False

/-- what such a call asks for -/
def Asks (args : List AV) (res : AV) (w : World) (β : Nat → Nat → Prop) (cargs : List Value) : Prop := match kindOf res with
  | 1 => ∀ i x, β i x → ∃ c T, w.heap[x]? = some (.cells c T (0, 0))
  | 2 => match args with
    | .handv T L _ lo len :: _ => ∃ g cap tl, cargs = .slice (some ⟨g, lo, none⟩) len cap :: tl ∧ len ≤ cap ∧ okDig L ∧ lo + len ≤ L.length ∧ HandAt w T L g ∧ (∃ cs, w.heap[g]? = some (.cells cs T (0, 0)) ∧ lo + cap ≤ cs.size) ∧ ∀ i x, β i x → x ≠ g
    | _ => False
  | _ => True

theorem kind_of_V {C : Ctx} {res : AV} {v : Value} (hV : V C res v) : kindOf res = 0 := by
  cases res with
  | boxv _ => simp only [V] at hV
  | grown _ _ => simp only [V] at hV
  | _ => rfl

theorem After.of {args : List AV} {cargs : List Value} {res : AV} {w w' : World} {β : Nat → Nat → Prop} {v : Value} (hg : Grow w w') (hV : V ⟨fun _ => .arena, resβ w w' β, w'⟩ res v) : After args res w w' β cargs v := by
  unfold After
  rw [kind_of_V hV]
  exact ⟨hg, hV⟩

/-- a function, called with these arguments, returns this -/
structure Contract (P : Program) (Inv : World → Prop) (f : Nat) (args : List AV) (res : AV) : Prop where
  enters : Enters P f
  calls : ∀ (w : World) (cargs : List Value) (β : Nat → Nat → Prop), Inv w → (∀ i x, β i x → x < w.heap.size) → Vs ⟨argBs args.length, β, w⟩ args cargs → Asks args res w β cargs →
    Calls P f cargs.toArray w fun e w' => ∃ v, e = .returned v ∧ After args res w w' β cargs v

def PhiOk (P : Program) (Inv : World → Prop) (Φ : Nat → List AV → Option Spec) : Prop := ∀ f args s, Φ f args = some s → andO s.pre True → Contract P Inv f args s.res

theorem mapO_spec {α β : Type} {f : α → Option β} : ∀ {l : List α} {r : List β}, mapO f l = some r → r.length = l.length ∧ ∀ (i : Nat) (x : α), l[i]? = some x → ∃ y, f x = some y ∧ r[i]? = some y
  | [], r, h => by simp [mapO] at h; subst h; simp
  | x :: l, r, h => by
    unfold mapO at h
    split at h
    · cases h
    · rename_i y hy
      split at h
      · cases h
      · rename_i r' hr
        cases h
        obtain ⟨h1, h2⟩ := mapO_spec hr
        refine ⟨by simp [h1], fun i z hi => ?_⟩
        cases i with
        | zero => simp at hi; subst hi; exact ⟨y, hy, by simp⟩
        | succ i => obtain ⟨u, hu1, hu2⟩ := h2 i z (by simpa using hi); exact ⟨u, hu1, by simpa using hu2⟩

theorem Vs.mapO {C C' : Ctx} {f : AV → Option AV} {cs cs' : List AV} {vs : List Value} (h : Vs C cs vs) (hf : mapO f cs = some cs') (k : ∀ c ∈ cs, ∀ c', f c = some c' → ∀ v, V C c v → V C' c' v) : Vs C' cs' vs := by
  obtain ⟨h1, h2⟩ := mapO_spec hf
  refine Vs.of (by rw [h1]; exact h.length) fun i c' v hc hv => ?_
  obtain ⟨c, hc1, hc2⟩ := h.getV hv
  obtain ⟨c'', hy1, hy2⟩ := h2 i c hc1
  rw [hc] at hy2
  cases hy2
  exact k c (List.mem_of_getElem? hc1) _ hy1 v hc2

theorem mem_dedup {x : Nat} : ∀ {l : List Nat}, x ∈ dedup l ↔ x ∈ l
  | [] => by simp [dedup]
  | y :: l => by
    unfold dedup
    split
    · rename_i h
      rw [mem_dedup, List.mem_cons]
      refine ⟨.inr, fun hx => ?_⟩
      rcases hx with rfl | hx
      · simpa using h
      · exact hx
    · rw [List.mem_cons, List.mem_cons, mem_dedup]

theorem nodup_dedup : ∀ (l : List Nat), (dedup l).Nodup
  | [] => by simp [dedup]
  | y :: l => by
    unfold dedup
    split
    · exact nodup_dedup l
    · rename_i h
      rw [List.nodup_cons]
      refine ⟨fun hm => h ?_, nodup_dedup l⟩
      simpa using mem_dedup.1 hm

section
variable {P : Program} {na : Nat} {β0 : Nat → Nat → Prop} {w0 : World} {σ : St} {β : Nat → Nat → Prop} {a : Act} {w : World} {o : Oper} {bx : Nat → Box} {Φ : Nat → List AV → Option Spec} {dr : Bool} {n : Nat} {e : Eff}

theorem asArg_V (hR : R na β0 w0 σ β a w) (hb : Sub bx σ.box) {i : Nat} {C' : Ctx} (hw : C'.w = w) (hbi : C'.bs i = .arena) : ∀ (k : Nat) (c c' : AV) (v : Value), V ⟨σ.box, β, w⟩ c v → AV.asArg bx i k c = some c' →
    (∀ j ∈ AV.ids bx k c, ∀ x, β j x → C'.β i x) → V C' c' v
  | 0, c, c', v, _, h, _ => by simp [AV.asArg] at h
  | k + 1, c, c', v, hV, h, hβ => by
    have hborn : C'.born [i] := fun j hj => by simp at hj; subst hj; rw [hbi]; simp
    have hin : ∀ (p : List Nat) (hp : ∀ j ∈ p, j ∈ AV.ids bx (k + 1) c) (b : Nat), Ctx.inP ⟨σ.box, β, w⟩ p b → C'.inP [i] b ∧ C'.w.heap[b]? = w.heap[b]? := by
      intro p hp b ⟨j, hj, hx⟩
      exact ⟨⟨i, by simp, hβ j (hp j hj) b hx⟩, by rw [hw]⟩
    have sub : ∀ (cs cs' : List AV) (vs : List Value), Vs ⟨σ.box, β, w⟩ cs vs → mapO (AV.asArg bx i k) cs = some cs' → (∀ d ∈ cs, ∀ j ∈ AV.ids bx k d, j ∈ AV.ids bx (k + 1) c) → Vs C' cs' vs := by
      intro cs cs' vs hvs hm hids
      exact hvs.mapO hm fun d hd d' hd' u hu => asArg_V hR hb hw hbi k d d' u hu hd' fun j hj x hx => hβ j (hids d hd j hj) x hx
    simp only [AV.asArg] at h
    split at h
    · cases h; simp only [V]
    · cases h; simp only [V] at hV ⊢; exact hV
    · cases h; simp only [V] at hV ⊢; exact hV
    · cases h
      simp only [V] at hV ⊢
      subst hV
      exact ⟨hborn, ⟨by simp, by simp⟩, none, 0, by simp, fun _ => .inl ⟨rfl, rfl⟩⟩
    · rename_i p l
      split at h
      · rename_i har
        cases h
        simp only [V] at hV ⊢
        obtain ⟨_, hok, base, cap, rfl, hd⟩ := hV
        exact ⟨hborn, hok, base, cap, rfl, fun _ => (hd (alive_of hb β w har)).mono (hin p (fun j hj => by simpa [AV.ids] using hj))⟩
      · cases h
    · rename_i b
      split at h
      · rename_i T l hbx
        cases h
        have hσ := hb.digs hbx
        have hbok := hR.boxes b
        rw [hσ] at hbok
        simp only [V] at hV ⊢
        rcases hV.2.2 T l hσ with ⟨rfl, rfl⟩ | ⟨blk, cap, g1, rfl, g2, g3, cs, g4, g5⟩
        · exact ⟨hborn, hbok.2.1, none, 0, by simp, fun _ => .inl ⟨rfl, rfl⟩⟩
        · obtain ⟨cs', hc', h4, h5⟩ := hbok.2.2 blk g1
          have hc'' : w.heap[blk]? = some (.cells cs' T (0, 0)) := hc'
          refine ⟨hborn, hbok.2.1, _, _, rfl, fun _ => .inr ⟨blk, 0, cs', T, (0, 0), rfl, ⟨i, by simp, hβ b (by simp [AV.ids]) blk g1⟩, by rw [hw]; exact hc'', g2, fun j hj => ?_, fun j x hj => ?_⟩⟩
          · have g4' : w.heap[blk]? = some (.cells cs T (0, 0)) := g4
            rw [hc''] at g4'
            cases g4'
            omega
          rw [Nat.zero_add]
          exact h5 j x hj
      · cases h
    · rename_i b gc lo len
      split at h
      · rename_i T l hbx
        cases h
        have hσ := hb.digs hbx
        have hbok := hR.boxes b
        rw [hσ] at hbok
        simp only [V] at hV ⊢
        obtain ⟨_, g, cap, _, rfl, hlc, hd⟩ := hV
        obtain ⟨g1, g2, cs, g4, g5⟩ := hd T l hσ
        have g4 : w.heap[g]? = some (.cells cs T (0, 0)) := g4
        obtain ⟨cs', hc', h4, h5⟩ := hbok.2.2 g g1
        have hc'' : w.heap[g]? = some (.cells cs' T (0, 0)) := hc'
        rw [hc''] at g4
        cases g4
        have hlen : ((l.drop lo).take len).length = len := by simp; omega
        refine ⟨hborn, (hbok.2.1.drop lo).take len, some ⟨g, lo, none⟩, cap, by rw [hlen], fun _ => .inr ⟨g, lo, cs, T, (0, 0), rfl, ⟨i, by simp, hβ b (by simp [AV.ids]) g g1⟩, by rw [hw]; exact hc'', by rw [hlen]; exact hlc, fun j hj => by omega, fun j x hj => ?_⟩⟩
        rw [List.getElem?_take] at hj
        split at hj
        · rw [List.getElem?_drop] at hj
          exact h5 _ x hj
        · cases hj
      · cases h
    · rename_i p m l
      split at h
      · rename_i har
        split at h
        · rename_i l' hl
          cases h
          simp only [V] at hV ⊢
          obtain ⟨_, hlen, hm, base, cap, us, rfl, hus, hsz, hd⟩ := hV
          have hl' := (mapO_spec hl).1
          refine ⟨hborn, by omega, hm, base, cap, us, by rw [hl'], sub l l' us hus hl (fun d hd j hj => ?_), hsz, fun _ => (hd (alive_of hb β w har)).mono (hin p (fun j hj => by simp [AV.ids, hj]))⟩
          simp only [AV.ids, List.mem_append, List.mem_flatMap]
          exact .inr ⟨d, hd, hj⟩
        · cases h
      · cases h
    · rename_i cs
      split at h
      · rename_i cs' hcs
        cases h
        simp only [V] at hV ⊢
        obtain ⟨vs, rfl, hvs⟩ := hV
        refine ⟨vs, rfl, sub cs cs' vs hvs hcs fun d hd j hj => ?_⟩
        simp only [AV.ids, List.mem_flatMap]
        exact ⟨d, hd, hj⟩
      · cases h
    · rename_i p cs
      split at h
      · rename_i har
        split at h
        · rename_i cs' hcs
          cases h
          simp only [V] at hV ⊢
          obtain ⟨_, vs, hvs, b, off, rfl, hd⟩ := hV
          have hd' := hd (alive_of hb β w har)
          refine ⟨hborn, vs, sub cs cs' vs hvs hcs (fun d hd j hj => ?_), b, off, rfl, fun _ => ⟨(hin p (fun j hj => by simp [AV.ids, hj]) b hd'.1).1, by rw [hw]; exact hd'.2⟩⟩
          simp only [AV.ids, List.mem_append, List.mem_flatMap]
          exact .inr ⟨d, hd, hj⟩
        · cases h
      · cases h
    · rename_i b off
      split at h
      · rename_i cs hbx
        split at h
        · rename_i cs' hcs
          cases h
          have hσ := hb.cells hbx
          have hbok := hR.boxes b
          rw [hσ] at hbok
          obtain ⟨blk', h1, vs, T, h2, h3⟩ := hbok
          simp only [V] at hV ⊢
          obtain ⟨blk, hβb, rfl⟩ := hV.2 (by rw [hσ]; trivial)
          have hbb : blk = blk' := (h1 blk).1 hβb
          subst hbb
          have h2' : w.heap[blk]? = some (.cells vs T (0, 0)) := h2
          refine ⟨hborn, vs.toList.drop off, sub _ cs' _ (h3.drop off) hcs (fun d hd j hj => ?_), blk, off, rfl, fun _ => ⟨⟨i, by simp, hβ b (by simp [AV.ids, hbx]) blk hβb⟩, fun j u hj => ?_⟩⟩
          · simp only [AV.ids, hbx, List.mem_cons, List.mem_flatMap]
            exact .inr ⟨d, hd, hj⟩
          · rw [hw, cell?_of_block h2']
            rw [List.getElem?_drop] at hj
            simpa using hj
        · cases h
      · cases h
    · rename_i f caps
      split at h
      · rename_i cs' hcs
        cases h
        simp only [V] at hV ⊢
        obtain ⟨vs, rfl, hvs⟩ := hV
        refine ⟨vs, rfl, sub caps cs' vs hvs hcs fun d hd j hj => ?_⟩
        simp only [AV.ids, List.mem_flatMap]
        exact ⟨d, hd, hj⟩
      · cases h
    · cases h

theorem asArgsFrom_V (hR : R na β0 w0 σ β a w) (hb : Sub bx σ.box) {C' : Ctx} (hw : C'.w = w) : ∀ (cs : List AV) (vs : List Value) (i : Nat) (as : List AV) (ps : List (List Nat)), Vs ⟨σ.box, β, w⟩ cs vs →
    asArgsFrom bx i cs = some (as, ps) → (∀ j, i ≤ j → j < i + cs.length → C'.bs j = .arena) → (∀ j p, ps[j]? = some p → ∀ m ∈ p, ∀ x, β m x → C'.β (i + j) x) →
    as.length = cs.length ∧ ps.length = cs.length ∧ Vs C' as vs
  | [], [], i, as, ps, _, h, _, _ => by
    simp [asArgsFrom] at h
    obtain ⟨rfl, rfl⟩ := h
    simp [Vs]
  | c :: cs, v :: vs, i, as, ps, hV, h, hbs, hβ => by
    unfold asArgsFrom at h
    split at h
    · cases h
    · rename_i c' hc
      split at h
      · cases h
      · rename_i cs' ps' hcs
        cases h
        simp only [Vs] at hV
        obtain ⟨h1, h2, h3⟩ := asArgsFrom_V hR hb hw cs vs (i + 1) cs' ps' hV.2 hcs (fun j hj1 hj2 => hbs j (by omega) (by simp; omega)) (fun j p hp m hm x hx => by
          have := hβ (j + 1) p (by simpa using hp) m hm x hx
          rwa [show i + (j + 1) = i + 1 + j by omega] at this)
        refine ⟨by simp [h1], by simp [h2], ?_⟩
        simp only [Vs]
        refine ⟨asArg_V hR hb hw (hbs i (Nat.le_refl _) (by simp)) 8 c c' v hV.1 hc fun j hj x hx => ?_, h3⟩
        have := hβ 0 (dedup (AV.ids bx 8 c)) (by simp) j (mem_dedup.2 hj) x hx
        simpa using this
  | [], _ :: _, _, _, _, hV, _, _, _ => by simp only [Vs] at hV
  | _ :: _, [], _, _, _, hV, _, _, _ => by simp only [Vs] at hV

mutual
theorem relab_V {C C' : Ctx} (hC : ∀ i, C.bs i = .arena) (hw : C'.w = C.w) (g : Nat → List Nat) : ∀ (c : AV) (v : Value), V C c v →
    (∀ j ∈ AV.names c, (∀ x, C.β j x → ∃ i ∈ g j, C'.β i x) ∧ ∀ i ∈ g j, C'.bs i ≠ .unborn) → V C' (AV.relab g c) v
  | .junk, _, _, _ => by simp only [AV.relab, V]
  | .num .., _, hV, _ => by simp only [AV.relab, V] at hV ⊢; exact hV
  | .bool _, _, hV, _ => by simp only [AV.relab, V] at hV ⊢; exact hV
  | .nilS, _, hV, _ => by simp only [AV.relab, V] at hV ⊢; exact hV
  | .dig p l, _, hV, h => by
    simp only [AV.relab, V] at hV ⊢
    obtain ⟨_, hok, base, cap, rfl, hd⟩ := hV
    refine ⟨fun i hi => ?_, hok, base, cap, rfl, fun _ => (hd (fun i _ => hC i)).mono fun b hb => ?_⟩
    · obtain ⟨j, hj, hi⟩ := List.mem_flatMap.1 (mem_dedup.1 hi)
      exact (h j (by simpa [AV.names] using hj)).2 i hi
    · obtain ⟨j, hj, hx⟩ := hb
      obtain ⟨i, hi, hxi⟩ := (h j (by simpa [AV.names] using hj)).1 b hx
      exact ⟨⟨i, mem_dedup.2 (List.mem_flatMap.2 ⟨j, hj, hi⟩), hxi⟩, by rw [hw]⟩
  | .vec p n l, _, hV, h => by
    simp only [AV.relab, V] at hV ⊢
    obtain ⟨_, hlen, hn, base, cap, us, rfl, hus, hsz, hd⟩ := hV
    have hll : (AV.relabs g l).length = l.length := relabs_length g l
    refine ⟨fun i hi => ?_, by omega, hn, base, cap, us, by rw [hll], relabs_V hC hw g l us hus (fun j hj => h j (by simp [AV.names, hj])), hsz, fun _ => (hd (fun i _ => hC i)).mono fun b hb => ?_⟩
    · obtain ⟨j, hj, hi⟩ := List.mem_flatMap.1 (mem_dedup.1 hi)
      exact (h j (by simp [AV.names, hj])).2 i hi
    · obtain ⟨j, hj, hx⟩ := hb
      obtain ⟨i, hi, hxi⟩ := (h j (by simp [AV.names, hj])).1 b hx
      exact ⟨⟨i, mem_dedup.2 (List.mem_flatMap.2 ⟨j, hj, hi⟩), hxi⟩, by rw [hw]⟩
  | .agg cs, _, hV, h => by
    simp only [AV.relab, V] at hV ⊢
    obtain ⟨vs, rfl, hvs⟩ := hV
    exact ⟨vs, rfl, relabs_V hC hw g cs vs hvs (fun j hj => h j (by simpa [AV.names] using hj))⟩
  | .tup cs, _, hV, h => by
    simp only [AV.relab, V] at hV ⊢
    obtain ⟨vs, rfl, hvs⟩ := hV
    exact ⟨vs, rfl, relabs_V hC hw g cs vs hvs (fun j hj => h j (by simpa [AV.names] using hj))⟩
  | .addr .., _, _, _ => by simp only [AV.relab, V]
  | .own _, _, _, _ => by simp only [AV.relab, V]
  | .cref .., _, _, _ => by simp only [AV.relab, V]
  | .fn .., _, _, _ => by simp only [AV.relab, V]
  | .grown .., _, _, _ => by simp only [AV.relab, V]
  | .boxv _, _, _, _ => by simp only [AV.relab, V]
  | .hand .., _, _, _ => by simp only [AV.relab, V]
  | .handv .., _, _, _ => by simp only [AV.relab, V]
theorem relabs_V {C C' : Ctx} (hC : ∀ i, C.bs i = .arena) (hw : C'.w = C.w) (g : Nat → List Nat) : ∀ (cs : List AV) (vs : List Value), Vs C cs vs →
    (∀ j ∈ AV.namess cs, (∀ x, C.β j x → ∃ i ∈ g j, C'.β i x) ∧ ∀ i ∈ g j, C'.bs i ≠ .unborn) → Vs C' (AV.relabs g cs) vs
  | [], [], _, _ => by simp only [AV.relabs, Vs]
  | c :: cs, v :: vs, hV, h => by
    simp only [AV.relabs, Vs] at hV ⊢
    exact ⟨relab_V hC hw g c v hV.1 (fun j hj => h j (by simp [AV.namess, hj])), relabs_V hC hw g cs vs hV.2 (fun j hj => h j (by simp [AV.namess, hj]))⟩
  | [], _ :: _, hV, _ => by simp only [Vs] at hV
  | _ :: _, [], hV, _ => by simp only [Vs] at hV
theorem relabs_length (g : Nat → List Nat) : ∀ (cs : List AV), (AV.relabs g cs).length = cs.length
  | [] => rfl
  | _ :: cs => by simp [AV.relabs, relabs_length g cs]
end

end
end Go.AI

namespace Go.AI
open Go Go.RowKit
set_option linter.unusedVariables false
set_option linter.unusedSimpArgs false

section
variable {P : Program} {Inv : World → Prop} {na : Nat} {β0 : Nat → Nat → Prop} {w0 : World} {σ : St} {β : Nat → Nat → Prop} {a : Act} {w : World} {o : Oper} {bx : Nat → Box} {Φ : Nat → List AV → Option Spec} {dr : Bool} {n : Nat} {e : Eff}

/-- the boxes of digits among p are given up to the arena n -/
theorem freeze_ok (dr : Bool) {n : Nat} (hn : na < n) : ∀ (p : List Nat) (u : List (Nat × Box)) (σ : St) (β : Nat → Nat → Prop), p.Nodup → n ∉ p → freeze bx dr p = some u → (∀ i ∈ p, bx i = .unborn ∨ bx i = σ.box i) →
    R na β0 w0 σ β a w → σ.box n = .arena →
    ∃ β', R na β0 w0 { σ with boxes := setBoxes σ.boxes u } β' a w ∧ St.box { σ with boxes := setBoxes σ.boxes u } n = .arena ∧ (∀ x, β n x → β' n x) ∧
      (∀ i, i ≠ n → σ.box i = .arena → St.box { σ with boxes := setBoxes σ.boxes u } i = .arena ∧ ∀ x, β i x → β' i x) ∧ ∀ i ∈ p, (bx i = .arena ∧ σ.box i = .arena) ∨ ∃ T l, bx i = .digs T l ∧ ∀ x, β i x → β' n x
  | [], u, σ, β, _, _, h, _, hR, ha => by
    simp [freeze] at h
    subst h
    exact ⟨β, hR, ha, fun _ hx => hx, fun i _ hi => ⟨hi, fun _ hx => hx⟩, fun i hi => by simp at hi⟩
  | i :: p, u, σ, β, hnd, hnp, h, hbx, hR, ha => by
    rw [List.nodup_cons] at hnd
    simp only [List.mem_cons, not_or] at hnp
    unfold freeze at h
    split at h
    · rename_i hi
      obtain ⟨β', h1, h2, h3, h4, h5⟩ := freeze_ok dr hn p u σ β hnd.2 hnp.2 h (fun j hj => hbx j (by simp [hj])) hR ha
      refine ⟨β', h1, h2, h3, h4, fun j hj => ?_⟩
      rcases List.mem_cons.1 hj with rfl | hj
      · refine .inl ⟨hi, ?_⟩
        rcases hbx j (by simp) with h' | h' <;> rw [hi] at h'
        · simp at h'
        · exact h'.symm
      · exact h5 j hj
    · rename_i T l hi
      split at h
      · cases h
      · split at h
        · rename_i u' hu'
          cases h
          have hσi : σ.box i = .digs T l := by
            rcases hbx i (by simp) with h' | h' <;> rw [hi] at h'
            · simp at h'
            · exact h'.symm
          have hnai := hR.na_lt (i := i) (by rw [hσi]; simp)
          have hli := hR.len (i := i) (by rw [hσi]; simp)
          have hR' := hR.give hnai hli (Ne.symm hnp.1) hn ha
          have hbox' : ∀ j, St.box { σ with boxes := σ.boxes.set i .dead } j = if j = i then .dead else σ.box j := fun j => St.box_set _ _ _ _ hli
          obtain ⟨β', h1, h2, h3, h4, h5⟩ := freeze_ok dr hn p u' { σ with boxes := σ.boxes.set i .dead } (giveβ β i n) hnd.2 hnp.2 hu' (fun j hj => by
            have hji : ¬ j = i := fun e => hnd.1 (e ▸ hj)
            rw [hbox', if_neg hji]
            exact hbx j (by simp [hj])) hR' (by rw [hbox', if_neg hnp.1]; exact ha)
          refine ⟨β', h1, h2, fun x hx => h3 x ?_, fun j hjn hj => ?_, fun j hj => ?_⟩
          · unfold giveβ
            rw [if_neg hnp.1, if_pos rfl]
            exact .inl hx
          · have hji : j ≠ i := fun e => by rw [e, hσi] at hj; simp at hj
            obtain ⟨q1, q2⟩ := h4 j hjn (by rw [hbox', if_neg hji]; exact hj)
            refine ⟨q1, fun x hx => q2 x ?_⟩
            unfold giveβ
            rw [if_neg hji, if_neg hjn]
            exact hx
          · rcases List.mem_cons.1 hj with rfl | hj
            · refine .inr ⟨T, l, hi, fun x hx => h3 x ?_⟩
              unfold giveβ
              rw [if_neg hnp.1, if_pos rfl]
              exact .inr hx
            · have hji : j ≠ i := fun e => hnd.1 (e ▸ hj)
              rcases h5 j hj with ⟨q1, q2⟩ | ⟨T', l', q1, q2⟩
              · rw [hbox', if_neg hji] at q2
                exact .inl ⟨q1, q2⟩
              · refine .inr ⟨T', l', q1, fun x hx => q2 x ?_⟩
                unfold giveβ
                rw [if_neg hji, if_neg]
                · exact hx
                · intro e; exact hnp.2 (e ▸ hj)
        · cases h
    · cases h

theorem mem_aliasIds {n m : Nat} : ∀ {p : List Nat}, m ∈ aliasIds bx n p → (m = n ∧ ∃ i ∈ p, ∃ T l, bx i = .digs T l) ∨ (m ∈ p ∧ ∀ T l, bx m ≠ .digs T l)
  | [], h => by simp [aliasIds] at h
  | i :: p, h => by
    unfold aliasIds at h
    split at h
    · rename_i T l hi
      rcases List.mem_cons.1 h with rfl | h
      · exact .inl ⟨rfl, i, by simp, T, l, hi⟩
      · rcases mem_aliasIds h with ⟨h1, j, hj, hh⟩ | ⟨h1, h2⟩
        · exact .inl ⟨h1, j, by simp [hj], hh⟩
        · exact .inr ⟨by simp [h1], h2⟩
    · rename_i hi
      rcases List.mem_cons.1 h with rfl | h
      · exact .inr ⟨by simp, fun T l e => hi T l e⟩
      · rcases mem_aliasIds h with ⟨h1, j, hj, hh⟩ | ⟨h1, h2⟩
        · exact .inl ⟨h1, j, by simp [hj], hh⟩
        · exact .inr ⟨by simp [h1], h2⟩

theorem aliasIds_mem {n i : Nat} : ∀ {p : List Nat}, i ∈ p → (∀ T l, bx i ≠ .digs T l) → i ∈ aliasIds bx n p
  | j :: p, h, hi => by
    unfold aliasIds
    rcases List.mem_cons.1 h with rfl | h
    · split
      · rename_i T l e; exact absurd e (hi T l)
      · simp
    · split
      · simp [aliasIds_mem h hi]
      · simp [aliasIds_mem h hi]

theorem aliasIds_digs {n i : Nat} {T : TypeId} {l : List Nat} (hi : bx i = .digs T l) : ∀ {p : List Nat}, i ∈ p → n ∈ aliasIds bx n p
  | j :: p, h => by
    unfold aliasIds
    rcases List.mem_cons.1 h with rfl | h
    · split
      · simp
      · rename_i e; exact absurd hi (e T l)
    · split
      · simp
      · simp [aliasIds_digs hi h]

theorem asArgsFrom_length : ∀ (cs : List AV) (i : Nat) (as : List AV) (ps : List (List Nat)), asArgsFrom bx i cs = some (as, ps) → as.length = cs.length := by
  intro cs
  induction cs with
  | nil => intro i as ps h; simp [asArgsFrom] at h; rw [← h.1]
  | cons c cs ih =>
    intro i as ps h
    unfold asArgsFrom at h
    split at h
    · cases h
    · split at h
      · cases h
      · rename_i h'
        cases h
        simp [ih _ _ _ h']

theorem ownIds_spec (hb : Sub bx σ.box) : ∀ {p : List Nat}, ownIds na bx p = true → ∀ i ∈ p, na < i ∧ σ.box i = .arena
  | [], _, i, hi => by simp at hi
  | j :: p, h, i, hi => by
    unfold ownIds at h
    simp only [Bool.and_eq_true, decide_eq_true_eq] at h
    rcases List.mem_cons.1 hi with rfl | hi
    · refine ⟨h.1.1, hb.arena ?_⟩
      have := h.1.2
      split at this
      · assumption
      · cases this
    · exact ownIds_spec hb h.2 i hi

theorem setBoxes_dead : ∀ (p : List Nat) (bs : List Box) (i : Nat), (∀ j ∈ p, j < bs.length) → (setBoxes bs (p.map fun j => (j, Box.dead))).getD i .unborn = if i ∈ p then .dead else bs.getD i .unborn
  | [], bs, i, _ => by simp [setBoxes]
  | j :: p, bs, i, h => by
    simp only [List.map_cons, setBoxes]
    rw [setBoxes_dead p _ i (fun k hk => by simpa using h k (by simp [hk])), box_set _ _ _ _ (h j (by simp))]
    by_cases c : i ∈ p
    · rw [if_pos c, if_pos (by simp [c])]
    · rw [if_neg c]
      by_cases d : i = j
      · rw [if_pos d, if_pos (by simp [d])]
      · rw [if_neg d, if_neg (by simp [c, d])]

/-- the memory of some arenas is written over -/
theorem R.turn (hR : R na β0 w0 σ β a w) {p : List Nat} (hp : ∀ i ∈ p, na < i ∧ σ.box i = .arena) {w' : World} (ht : Turn (fun x => ∃ m ∈ p, β m x) w w') :
    R na β0 w0 { σ with boxes := setBoxes σ.boxes (p.map fun i => (i, Box.dead)) } β a w' := by
  have hlen : ∀ i ∈ p, i < σ.boxes.length := fun i hi => hR.len (i := i) (by rw [(hp i hi).2]; simp)
  have hbox : ∀ i, St.box { σ with boxes := setBoxes σ.boxes (p.map fun i => (i, Box.dead)) } i = if i ∈ p then .dead else σ.box i := fun i => setBoxes_dead p σ.boxes i hlen
  have keep : ∀ i x, i ∉ p → β i x → w'.heap[x]? = w.heap[x]? := fun i x hi hx => ht.other x (hR.lt hx) fun ⟨m, hm, hmx⟩ => by
    have h1 := (hp m hm).1
    by_cases c : na < i
    · exact hi (hR.disj i m x c h1 hx hmx ▸ hm)
    · exact hR.apart (by omega) h1 hx hmx
  have hle : Le ⟨σ.box, β, w⟩ ⟨St.box { σ with boxes := setBoxes σ.boxes (p.map fun i => (i, Box.dead)) }, β, w'⟩ := by
    refine ⟨fun i hi => ?_, fun i hi hc => ?_, fun i T l' hi hc => ?_, fun i c' hi hc => ?_⟩
    · show St.box _ i ≠ _
      rw [hbox]
      split
      · simp
      · exact hi
    · change St.box _ i = _ at hc
      rw [hbox] at hc
      split at hc
      · cases hc
      · rename_i hip
        exact ⟨hc, fun x hx => ⟨hx, keep i x hip hx⟩⟩
    · change St.box _ i = _ at hc
      rw [hbox] at hc
      split at hc
      · cases hc
      · rename_i hip
        exact ⟨l', hc, rfl, fun x hx => ⟨hx, fun cs hcs => ⟨cs, (keep i x hip hx).trans hcs, rfl⟩⟩⟩
    · change St.box _ i = _ at hc
      rw [hbox] at hc
      split at hc
      · cases hc
      · exact ⟨c', hc, fun x hx => hx⟩
  refine ⟨Vs.mono hle _ _ hR.tmps, hR.defers, fun i => ?_, fun i hi => ?_, hR.old, fun i x hi hx => ?_, hR.disj, fun i x hi => ?_, ?_, hR.arg0⟩
  · rw [hbox]
    split
    · trivial
    · rename_i hip
      exact (hR.boxes i).mono hle (fun x => Iff.rfl) (fun x hx => keep i x hip hx)
  · rw [hbox, if_neg (fun h => by have := (hp i h).1; omega)]
    exact hR.args i hi
  · have h1 := hR.new i x hi hx
    have := ht.meta0.size
    exact ⟨h1.1, by omega⟩
  · rw [hbox] at hi
    split at hi
    · cases hi
    · exact hR.unborn i x hi
  · have hsz := hR.grow.meta0.size
    have hold : ∀ x, x < w0.heap.size → ¬ β0 (na + 1) x → w'.heap[x]? = w.heap[x]? := fun x hx hs => ht.other x (by omega) fun ⟨m, hm, hmx⟩ => by
      rcases (hR.new m x (hp m hm).1 hmx).1 with h | h
      · omega
      · exact hs h
    refine ⟨hR.grow.meta0.trans ht.meta0, fun x hx hs => (hold x hx hs).trans (hR.grow.block x hx hs), fun x c T hs hc => ?_, fun k h1 h2 => ?_, hR.grow.base⟩
    · obtain ⟨c1, hc1, e1⟩ := hR.grow.inS x c T hs hc
      by_cases hm : ∃ m ∈ p, β m x
      · obtain ⟨c2, hc2, e2⟩ := ht.inS x c1 T hm hc1
        exact ⟨c2, hc2, by omega⟩
      · exact ⟨c1, (ht.other x (Array.getElem?_eq_some_iff.1 hc1).1 hm).trans hc1, e1⟩
    by_cases hk : k < w.heap.size
    · obtain ⟨c, T, hc⟩ := hR.grow.fresh k h1 hk
      by_cases hs : ∃ m ∈ p, β m k
      · obtain ⟨c', hc', _⟩ := ht.inS k c T hs hc
        exact ⟨c', T, hc'⟩
      · exact ⟨c, T, (ht.other k hk hs).trans hc⟩
    · exact ht.fresh k (by omega) h2

theorem sound_callEff (hR : R na β0 w0 σ β a w) (hb : Sub bx σ.box) (hInv : Inv w) (hΦ : PhiOk P Inv Φ) {f : Nat} {args : List AV} {vs : List Value} (hV : Vs ⟨σ.box, β, w⟩ args vs)
    (he : callEff na bx dr Φ n f args = some e) (hp : andO e.pre True) (hn : Free na σ n) {dst : Option Tmp} :
    Enters P f ∧ Calls P f vs.toArray w fun en w' => ∃ v, en = .returned v ∧ ∃ β', R na β0 w0 { σ with boxes := setBoxes σ.boxes e.upd } β' a w' ∧ V ⟨St.box { σ with boxes := setBoxes σ.boxes e.upd }, β', w'⟩ e.val v := by
  unfold callEff at he
  split at he
  · cases he
  · rename_i as ps has
    split at he
    · cases he
    · rename_i s hs
      split at he
      · rename_i hsm
        split at he
        · rename_i hown
          cases he
          simp only [Bool.and_eq_true] at hown
          have hC := hΦ f as s hs hp
          refine ⟨hC.enters, ?_⟩
          let βc : Nat → Nat → Prop := fun i x => ∃ p, 1 ≤ i ∧ ps[i - 1]? = some p ∧ ∃ m ∈ p, β m x
          have hlt : ∀ i x, βc i x → x < w.heap.size := fun i x ⟨p, _, _, m, _, hm⟩ => hR.lt hm
          have hin : ∀ i x, βc i x → ∃ m ∈ dedup ps.flatten, β m x := fun i x ⟨p, _, hp, m, hm, hx⟩ => ⟨m, mem_dedup.2 (List.mem_flatten.2 ⟨p, List.mem_of_getElem? hp, hm⟩), hx⟩
          have hlen := asArgsFrom_length args 1 as ps has
          have hargs := asArgsFrom_V (C' := ⟨argBs as.length, βc, w⟩) hR hb rfl args vs 1 as ps hV has (fun j h1 h2 => by
            show argBs _ j = _
            unfold argBs
            rw [if_pos (by rw [hlen]; omega)]) (fun j p hp' m hm x hx => ⟨p, by omega, by rw [show 1 + j - 1 = j by omega]; exact hp', m, hm, hx⟩)
          have hids := ownIds_spec hb hown.2
          have hk : kindOf s.res = 1 := by
            cases hr : s.res with
            | boxv l => cases l with
              | nil => rfl
              | cons _ _ => rw [hr] at hsm; cases hsm
            | _ => rw [hr] at hsm; cases hsm
          have hasks : Asks as s.res w βc vs := by
            unfold Asks
            rw [hk]
            intro i x hx
            obtain ⟨m, hm, hmx⟩ := hin i x hx
            obtain ⟨h1, h2⟩ := hids m hm
            obtain ⟨h3, h4⟩ := hR.new m x h1 hmx
            by_cases h5 : w0.heap.size ≤ x
            · exact hR.grow.fresh x h5 h4
            · obtain ⟨c, T, hc⟩ := hR.grow.base x (h3.resolve_left h5)
              obtain ⟨c', hc', _⟩ := hR.grow.inS x c T (h3.resolve_left h5) hc
              exact ⟨c', T, hc'⟩
          refine (hC.calls w vs βc hInv hlt hargs.2.2 hasks).mono ?_
          rintro en w' ⟨v, rfl, haf⟩
          unfold After at haf
          rw [hk] at haf
          obtain ⟨rfl, hturn⟩ := haf
          refine ⟨_, rfl, β, hR.turn hids (hturn.mono fun x ⟨i, hx⟩ => hin i x hx), ?_⟩
          simp only [V]
          exact ⟨[], by simp, by simp only [Vs]⟩
        · cases he
      · rename_i hsm
        have hsm : smash s.res = false := by simpa using hsm
        split at he
        · rename_i T l hres
          cases he
          have hC := hΦ f as s hs hp
          refine ⟨hC.enters, ?_⟩
          let βc : Nat → Nat → Prop := fun i x => ∃ p, 1 ≤ i ∧ ps[i - 1]? = some p ∧ ∃ m ∈ p, β m x
          have hlt : ∀ i x, βc i x → x < w.heap.size := fun i x ⟨p, _, _, m, _, hm⟩ => hR.lt hm
          have hlen := asArgsFrom_length args 1 as ps has
          have hargs := asArgsFrom_V (C' := ⟨argBs as.length, βc, w⟩) hR hb rfl args vs 1 as ps hV has (fun j h1 h2 => by
            show argBs _ j = _
            unfold argBs
            rw [if_pos (by rw [hlen]; omega)]) (fun j p hp' m hm x hx => ⟨p, by omega, by rw [show 1 + j - 1 = j by omega]; exact hp', m, hm, hx⟩)
          refine (hC.calls w vs βc hInv hlt hargs.2.2 (by unfold Asks; rw [hres]; trivial)).mono ?_
          rintro en w' ⟨v, rfl, haf⟩
          unfold After at haf
          rw [hres] at haf
          obtain ⟨hg, hok, hown⟩ := haf
          refine ⟨v, rfl, ?_⟩
          have hnew : ∃ s : Nat → Prop, (∀ x, s x → w.heap.size ≤ x ∧ x < w'.heap.size) ∧ BoxOk ⟨St.box { σ with boxes := σ.boxes.set n (.digs T l) }, setβ β n s, w'⟩ n (.digs T l) ∧ V ⟨St.box { σ with boxes := σ.boxes.set n (.digs T l) }, setβ β n s, w'⟩ (.own n) v := by
            have hbox1 : St.box { σ with boxes := σ.boxes.set n (.digs T l) } n = .digs T l := (St.box_set _ _ _ _ hn.len).trans (if_pos rfl)
            rcases hown with ⟨rfl, rfl⟩ | ⟨g, cs, g1, g2, g3, rfl, g4, g5, g6⟩
            · have hno : ∀ x, ¬ setβ β n (fun _ => False) n x := fun x hx => (setβ_same β n (fun _ => False) x).1 hx
              refine ⟨fun _ => False, fun x hx => hx.elim, ⟨fun x y hx => absurd hx (hno x), hok, fun x hx => absurd hx (hno x)⟩, ?_⟩
              simp only [V]
              rw [hbox1]
              exact ⟨by simp, ⟨_, _, _, rfl⟩, fun T' l' hl => by cases hl; exact .inl ⟨trivial, rfl⟩⟩
            · refine ⟨(· = g), fun x hx => by subst hx; exact ⟨g1, g2⟩, ⟨fun x y hx hy => by rw [(setβ_eq _ _ _ _).1 hx, (setβ_eq _ _ _ _).1 hy], hok, fun x hx => ?_⟩, ?_⟩
              · have := (setβ_eq _ _ _ _).1 hx
                subst this
                exact ⟨cs, g3, g4, g6⟩
              · simp only [V]
                rw [hbox1]
                refine ⟨by simp, ⟨_, _, _, rfl⟩, fun T' l' hl => ?_⟩
                cases hl
                exact .inr ⟨g, cs.size, (setβ_eq _ _ _ _).2 rfl, rfl, g4, g5, cs, g3, rfl⟩
          obtain ⟨s', q1, q2, q3⟩ := hnew
          exact ⟨_, hR.newId (w' := w') hn.na hn.len hn.un (.digs T l) s' hg (by simp) q1 q2, q3⟩
        · cases he
        rename_i hng hnb
        split at he
        · cases he
        · rename_i u hu
          cases he
          have hk : kindOf s.res = 0 := by
            cases hr : s.res with
            | boxv l => exact absurd hr (hnb l)
            | grown T l => exact absurd hr (hng T l)
            | _ => rfl
          have hC := hΦ f as s hs hp
          refine ⟨hC.enters, ?_⟩
          let βc : Nat → Nat → Prop := fun i x => ∃ p, 1 ≤ i ∧ ps[i - 1]? = some p ∧ ∃ m ∈ p, β m x
          have hlt : ∀ i x, βc i x → x < w.heap.size := fun i x ⟨p, _, _, m, _, hm⟩ => hR.lt hm
          have hlen : ∀ as ps, asArgsFrom bx 1 args = some (as, ps) → as.length = args.length := fun as ps h => by
            have : ∀ (cs : List AV) (i : Nat) (as : List AV) (ps : List (List Nat)), asArgsFrom bx i cs = some (as, ps) → as.length = cs.length := by
              intro cs
              induction cs with
              | nil => intro i as ps h; simp [asArgsFrom] at h; rw [← h.1]
              | cons c cs ih =>
                intro i as ps h
                unfold asArgsFrom at h
                split at h
                · cases h
                · split at h
                  · cases h
                  · rename_i h'
                    cases h
                    simp [ih _ _ _ h']
            exact this args 1 as ps h
          have hargs := asArgsFrom_V (C' := ⟨argBs as.length, βc, w⟩) hR hb rfl args vs 1 as ps hV has (fun j h1 h2 => by
            show argBs _ j = _
            unfold argBs
            rw [if_pos (by rw [hlen as ps has]; omega)]) (fun j p hp' m hm x hx => ⟨p, by omega, by rw [show 1 + j - 1 = j by omega]; exact hp', m, hm, hx⟩)
          refine (hC.calls w vs βc hInv hlt hargs.2.2 (by unfold Asks; rw [hk]; trivial)).mono ?_
          rintro en w' ⟨v, rfl, haf⟩
          unfold After at haf
          rw [hk] at haf
          obtain ⟨hg, hv⟩ := haf
          refine ⟨v, rfl, ?_⟩
          -- the callee's new memory: arena n
          have hnew := (hR.newId (w' := w') hn.na hn.len hn.un .arena (fun x => w.heap.size ≤ x ∧ x < w'.heap.size) hg (by simp) (fun x hx => hx) trivial)
          have hbox1 : ∀ j, St.box { σ with boxes := σ.boxes.set n .arena } j = if j = n then .arena else σ.box j := fun j => St.box_set _ _ _ _ hn.len
          have hnin : n ∉ dedup (s.res.names.flatMap fun j => if j = 0 then [] else ps.getD (j - 1) []) := by
            intro hm
            -- an id that is unborn cannot be frozen
            have : ∀ (p : List Nat) (u : List (Nat × Box)), freeze bx dr p = some u → n ∈ p → False := by
              intro p
              induction p with
              | nil => intro u _ h; simp at h
              | cons i p ih =>
                intro u h hm
                unfold freeze at h
                rcases List.mem_cons.1 hm with rfl | hm
                · rcases hb n with h' | h'
                  · simp [h'] at h
                  · rw [hn.un] at h'; simp [h'] at h
                · split at h
                  · exact ih u h hm
                  · split at h
                    · cases h
                    · split at h
                      · rename_i h'; exact ih _ h' hm
                      · cases h
                  · cases h
            exact this _ u hu hm
          obtain ⟨β2, r1, r2, r3, r4, r5⟩ := freeze_ok (bx := bx) dr hn.na _ u _ _ (nodup_dedup _) hnin hu (fun i hi => by
            have hin' : ¬ i = n := fun e => hnin (e ▸ hi)
            rw [hbox1, if_neg hin']
            exact hb i) hnew (by rw [hbox1, if_pos rfl])
          refine ⟨β2, r1, ?_⟩
          refine relab_V (C := ⟨fun _ => .arena, resβ w w' βc, w'⟩) (C' := ⟨St.box { σ with boxes := setBoxes σ.boxes ((n, Box.arena) :: u) }, β2, w'⟩) (fun _ => rfl) rfl _ _ _ hv fun j hj => ?_
          by_cases h0 : j = 0
          · subst h0
            refine ⟨fun x hx => ⟨n, by simp, r3 x ((setβ_same _ _ _ _).2 (by simpa [resβ] using hx))⟩, fun i hi => ?_⟩
            simp at hi
            subst hi
            show St.box _ i ≠ _
            rw [show setBoxes σ.boxes ((i, Box.arena) :: u) = setBoxes (σ.boxes.set i .arena) u from rfl, r2]
            simp
          · have hin : ∀ m ∈ ps.getD (j - 1) [], m ∈ dedup (s.res.names.flatMap fun j => if j = 0 then [] else ps.getD (j - 1) []) := fun m hm =>
              mem_dedup.2 (List.mem_flatMap.2 ⟨j, hj, by rw [if_neg h0]; exact hm⟩)
            refine ⟨fun x hx => ?_, fun i hi => ?_⟩
            · simp only [resβ, if_neg h0] at hx
              obtain ⟨p, _, hpj, m, hm, hmx⟩ := hx
              have hpd : ps.getD (j - 1) [] = p := by simp [List.getD, hpj]
              have hmn : m ≠ n := fun e => hnin (e ▸ hin m (by rw [hpd]; exact hm))
              rcases r5 m (hin m (by rw [hpd]; exact hm)) with ⟨q1, q2⟩ | ⟨T, l, q1, q2⟩
              · refine ⟨m, ?_, (r4 m hmn q2).2 x ((setβ_other _ _ hmn x).2 hmx)⟩
                simp only [if_neg h0, hpd]
                exact aliasIds_mem hm (fun T l e => by rw [q1] at e; simp at e)
              · refine ⟨n, ?_, q2 x ((setβ_other _ _ hmn x).2 hmx)⟩
                simp only [if_neg h0, hpd]
                exact aliasIds_digs q1 hm
            · simp only [if_neg h0] at hi
              show St.box _ i ≠ _
              rw [show setBoxes σ.boxes ((n, Box.arena) :: u) = setBoxes (σ.boxes.set n .arena) u from rfl]
              rcases mem_aliasIds hi with ⟨rfl, _⟩ | ⟨hip, hid⟩
              · rw [r2]; simp
              · have hinn : i ≠ n := fun e => hnin (e ▸ hin i hip)
                rcases r5 i (hin i hip) with ⟨q1, q2⟩ | ⟨T, l, q1, q2⟩
                · rw [(r4 i hinn q2).1]; simp
                · exact absurd q1 (hid T l)


theorem andO_weak {p : Option Prop} {q : Prop} (h : andO p q) : andO p True := by
  cases p with
  | none => trivial
  | some p => exact ⟨h.1, trivial⟩
/-- the box whose memory a call may write -/
theorem handOf_spec (hR : R na β0 w0 σ β a w) (hb : Sub bx σ.box) {c : AV} {v : Value} (hV : V ⟨σ.box, β, w⟩ c v) {b : Nat} {T : TypeId} {L : List Nat} {lo len : Nat} (h : handOf bx c = some (b, T, L, lo, len)) (h0 : 0 < L.length) :
    bx b = .digs T L ∧ σ.box b = .digs T L ∧ b ∈ AV.ids bx 8 c ∧ ∃ g cap cs, β b g ∧ v = .slice (some ⟨g, lo, none⟩) len cap ∧ len ≤ cap ∧ lo + len ≤ L.length ∧ w.heap[g]? = some (.cells cs T (0, 0)) ∧ lo + cap ≤ cs.size ∧
      (isOwn c = true → lo = 0 ∧ len = L.length ∧ cap = cs.size ∧ cap ≤ maxLen) := by
  unfold handOf at h
  split at h
  · rename_i b'
    split at h
    · rename_i T' L' hbx
      cases h
      have hσ := hb.digs hbx
      simp only [V] at hV
      rcases hV.2.2 T L hσ with ⟨_, h2⟩ | ⟨g, cap, h1, h2, h3, h4, cs, h5, h6⟩
      · subst h2; simp at h0
      · exact ⟨hbx, hσ, by simp [AV.ids], g, cap, cs, h1, h2, h3, by omega, h5, by omega, fun _ => ⟨rfl, rfl, h6, h4⟩⟩
    · cases h
  · rename_i b' gc lo' len'
    split at h
    · rename_i T' L' hbx
      cases h
      have hσ := hb.digs hbx
      simp only [V] at hV
      obtain ⟨_, g, cap, _, h1, h2, h3⟩ := hV
      obtain ⟨h4, h5, cs, h6, h7⟩ := h3 T L hσ
      exact ⟨hbx, hσ, by simp [AV.ids], g, cap, cs, h4, h1, h2, h5, h6, h7, fun h => by cases h⟩
    · cases h
  · cases h

theorem sound_handEff (hR : R na β0 w0 σ β a w) (hb : Sub bx σ.box) (hInv : Inv w) (hΦ : PhiOk P Inv Φ) {f : Nat} {args : List AV} {vs : List Value} (hV : Vs ⟨σ.box, β, w⟩ args vs)
    (he : handEff na bx dr Φ n f args = some e) (hp : andO e.pre True) (hn : Free na σ n) :
    Enters P f ∧ Calls P f vs.toArray w fun en w' => ∃ v, en = .returned v ∧ ∃ β', R na β0 w0 { σ with boxes := setBoxes σ.boxes e.upd } β' a w' ∧ V ⟨St.box { σ with boxes := setBoxes σ.boxes e.upd }, β', w'⟩ e.val v := by
  unfold handEff at he
  split at he
  · cases he
  rename_i c cs
  split at he
  · cases he
  rename_i b T L lo len hh
  split at he
  · cases he
  rename_i as ps has
  split at he
  · cases he
  rename_i s hs
  split at he
  · cases he
  rename_i hdr
  simp only [Bool.or_eq_true, not_or, Bool.not_eq_true] at hdr
  have hnb : b ∉ ps.flatten := by simpa using hdr.2
  match vs, hV with
  | [], hV => simp only [Vs] at hV
  | v :: vs, hV =>
  simp only [Vs] at hV
  -- what both kinds have
  have key : ∀ {L' : List Nat} {r : AV}, (∃ q, s.res = .boxv [.dig q L', r]) → andO s.pre (0 < L.length) →
      Enters P f ∧ Calls P f (v :: vs).toArray w fun en w' => ∃ u g cap cs0, en = .returned u ∧ β b g ∧ σ.box b = .digs T L ∧ v = .slice (some ⟨g, lo, none⟩) len cap ∧ w.heap[g]? = some (.cells cs0 T (0, 0)) ∧ lo + cap ≤ cs0.size ∧ len ≤ cap ∧ lo + len ≤ L.length ∧
        (isOwn c = true → lo = 0 ∧ len = L.length ∧ cap = cs0.size ∧ cap ≤ maxLen) ∧ GrowS (· = g) w w' ∧ L'.length = L.length ∧ okDig L' ∧ HandAt w' T L' g ∧ HandRes g cap lo len r u := by
    intro L' r hres hpre
    have h0 : 0 < L.length := by
      cases hq : s.pre with
      | none => rw [hq] at hpre; exact hpre
      | some q => rw [hq] at hpre; exact hpre.2
    have hpr : andO s.pre True := andO_weak hpre
    obtain ⟨k1, k2, k3, g, cap, cs0, k4, k5, k6, k7, k8, k9, k10⟩ := handOf_spec hR hb hV.1 hh h0
    have hC := hΦ f _ s hs hpr
    refine ⟨hC.enters, ?_⟩
    have hbok := hR.boxes b
    rw [k2] at hbok
    obtain ⟨m1, m2, m3⟩ := hbok
    obtain ⟨cs1, n1, n2, n3⟩ := m3 g k4
    have n1 : w.heap[g]? = some (.cells cs1 T (0, 0)) := n1
    have hna := hR.na_lt (i := b) (by rw [k2]; simp)
    have hlen := asArgsFrom_length cs 2 as ps has
    let βc : Nat → Nat → Prop := fun i x => ∃ p, 2 ≤ i ∧ ps[i - 2]? = some p ∧ ∃ m ∈ p, β m x
    have hlt : ∀ i x, βc i x → x < w.heap.size := fun i x ⟨p, _, _, m, _, hm⟩ => hR.lt hm
    have hargs := asArgsFrom_V (C' := ⟨argBs (as.length + 1), βc, w⟩) hR hb rfl cs vs 2 as ps hV.2 has (fun j h1 h2 => by
      show argBs _ j = _
      unfold argBs
      rw [if_pos (by rw [hlen]; omega)]) (fun j p hp' m hm x hx => ⟨p, by omega, by rw [show 2 + j - 2 = j by omega]; exact hp', m, hm, hx⟩)
    have hkind : kindOf s.res = 2 := by obtain ⟨q, h⟩ := hres; rw [h]; rfl
    have hasks : Asks (.handv T L none lo len :: as) s.res w βc (v :: vs) := by
      unfold Asks
      rw [hkind]
      refine ⟨g, cap, vs, by rw [k5], k6, m2, k7, ⟨cs1, n1, n2, n3⟩, ⟨cs0, k8, k9⟩, ?_⟩
      rintro i x ⟨p, _, hp', m, hm, hx⟩ e
      subst e
      have hmb : m ≠ b := fun e => hnb (by rw [← e]; exact List.mem_flatten.2 ⟨p, List.mem_of_getElem? hp', hm⟩)
      by_cases hm' : m ≤ na
      · exact hR.apart hm' hna hx k4
      · exact hmb (hR.disj m b x (by omega) hna hx k4)
    refine (hC.calls w (v :: vs) βc hInv hlt (by
      have h3 := hargs.2.2
      simp only [Vs, V, List.length_cons]
      exact ⟨⟨m2, k7⟩, h3⟩) hasks).mono ?_
    rintro en w' ⟨u, rfl, haf⟩
    unfold After at haf
    rw [hkind] at haf
    have haf' : ∃ g' cap' tl, (v :: vs) = .slice (some ⟨g', lo, none⟩) len cap' :: tl ∧ GrowS (· = g') w w' ∧ L'.length = L.length ∧ okDig L' ∧ HandAt w' T L' g' ∧ HandRes g' cap' lo len r u := by
      obtain ⟨q, h⟩ := hres
      rw [h] at haf
      exact haf
    obtain ⟨g', cap', tl, q1, q2⟩ := haf'
    rw [k5] at q1
    cases q1
    exact ⟨u, g, cap, cs0, rfl, k4, k2, k5, k8, k9, k6, k7, k10, q2⟩
  -- the state behind it: the block is written, new memory is there
  have grown : ∀ {g : Nat} {w' : World} {cs0 : Array Value} {L' : List Nat}, β b g → σ.box b = .digs T L → w.heap[g]? = some (.cells cs0 T (0, 0)) → GrowS (· = g) w w' → L'.length = L.length → okDig L' → HandAt w' T L' g →
      R na β0 w0 { σ with boxes := σ.boxes.set b (.digs T L') } β a w' ∧ ∃ cs1, w'.heap[g]? = some (.cells cs1 T (0, 0)) ∧ cs1.size = cs0.size := by
    intro g w' cs0 L' hβ hσ hc0 hg hlen hok hat
    have hna := hR.na_lt (i := b) (by rw [hσ]; simp)
    have hlb := hR.len (i := b) (by rw [hσ]; simp)
    have hbok := hR.boxes b
    rw [hσ] at hbok
    have only : ∀ x, β b x → x = g := fun x hx => hbok.1 x g hx hβ
    obtain ⟨cs1, hc1, hsz⟩ := hg.inS g cs0 T rfl hc0
    refine ⟨?_, cs1, hc1, hsz⟩
    refine R.storeG hR hna hlb (.digs T L') (.inr ⟨T, L, L', hσ, rfl, hlen.symm⟩) (fun x hl hx => hg.block x hl fun e => hx (e ▸ hβ)) (fun x hx cs T' hc => ?_) ?_ hg.meta0.size ⟨hbok.1, hok, fun x hx => ?_⟩
    · rw [only x hx] at hc ⊢
      exact hg.inS g cs T' rfl hc
    · refine ⟨hR.grow.meta0.trans hg.meta0, fun x hx hs => ?_, fun x c T' hs hc => ?_, fun k h1 h2 => ?_, hR.grow.base⟩
      · refine (hg.block x (Nat.lt_of_lt_of_le hx hR.grow.meta0.size) fun e => ?_).trans (hR.grow.block x hx hs)
        subst e
        rcases (hR.new b x hna hβ).1 with h | h
        · omega
        · exact hs h
      · obtain ⟨c1, e1, e2⟩ := hR.grow.inS x c T' hs hc
        by_cases e : x = g
        · subst e
          obtain ⟨c2, e3, e4⟩ := hg.inS x c1 T' rfl e1
          exact ⟨c2, e3, by omega⟩
        · exact ⟨c1, (hg.block x (Array.getElem?_eq_some_iff.1 e1).1 e).trans e1, e2⟩
      · by_cases hk : k < w.heap.size
        · by_cases e : k = g
          · subst e; exact ⟨cs1, T, hc1⟩
          · obtain ⟨c, T', hc⟩ := hR.grow.fresh k h1 hk
            exact ⟨c, T', (hg.block k hk e).trans hc⟩
        · exact hg.fresh k (by omega) h2
    · rw [only x hx]
      exact hat
  split at he
  · rename_i q L' k d hres
    cases he
    obtain ⟨h1, h2⟩ := key (L' := L') (r := .num k d) ⟨_, hres⟩ hp.1
    refine ⟨h1, h2.mono ?_⟩
    rintro en w' ⟨u, g, cap, cs0, rfl, k1, k2, k3, k4, k5, k6, k7, k8, k9, k10, k11, k12, k13⟩
    obtain ⟨hR1, -⟩ := grown k1 k2 k4 k9 k10 k11 k12
    have hnbn : n ≠ b := fun e => by have := hn.un; rw [e, k2] at this; cases this
    have hn1 : Free na { σ with boxes := σ.boxes.set b (.digs T L') } n := ⟨hn.na, by simpa using hn.len, by
      show List.getD _ _ _ = _
      rw [box_set _ _ _ _ (hR.len (i := b) (by rw [k2]; simp)), if_neg hnbn]
      exact hn.un⟩
    have hR2 := hR1.newId (w' := w') hn1.na hn1.len hn1.un .arena (fun _ => False) (Grow.refl w') (by simp) (fun x hx => hx.elim) trivial
    refine ⟨u, rfl, setβ β n fun _ => False, ?_, ?_⟩
    rotate_left
    · obtain ⟨rfl, h3⟩ := k13
      simp only [V]
      exact ⟨trivial, h3⟩
    · have e : setBoxes σ.boxes [(n, .arena), (b, .digs T L')] = (σ.boxes.set b (.digs T L')).set n .arena := by
        simp only [setBoxes]
        exact List.set_comm _ _ hnbn
      rw [e]
      exact hR2
  · rename_i q L' _ k hres
    split at he
    · rename_i hown
      cases he
      obtain ⟨h1, h2⟩ := key (L' := L') (r := .addr _ k) ⟨_, hres⟩ hp.1
      refine ⟨h1, h2.mono ?_⟩
      rintro en w' ⟨u, g, cap, cs0, rfl, k1, k2, k3, k4, k5, k6, k7, k8, k9, k10, k11, k12, k13⟩
      obtain ⟨hR1, cs1, hc1, hsz⟩ := grown k1 k2 k4 k9 k10 k11 k12
      have hlb := hR.len (i := b) (by rw [k2]; simp)
      have hnbn : n ≠ b := fun e => by have := hn.un; rw [e, k2] at this; cases this
      have hn1 : Free na { σ with boxes := σ.boxes.set b (.digs T L') } n := ⟨hn.na, by simpa using hn.len, by
        show List.getD _ _ _ = _
        rw [box_set _ _ _ _ hlb, if_neg hnbn]
        exact hn.un⟩
      have hb1 : St.box { σ with boxes := σ.boxes.set b (.digs T L') } b = .digs T L' := (St.box_set _ _ _ _ hlb).trans (if_pos rfl)
      obtain ⟨hlo, hle, hcp, hmx⟩ := k8 hown
      obtain ⟨rfl, hk⟩ := k13
      have hlk : (L'.take k).length = k := by simp; omega
      obtain ⟨cs2, m1, m2, m3⟩ := k12
      rw [hc1] at m1
      cases m1
      have hR2 := hR1.move (w' := w') hb1 hn1 (.digs T (L'.take k)) (by simp) (fun x => x = g) (fun x hx => .inl (by rw [hx]; exact k1)) (fun x _ _ => rfl) hR1.grow (Nat.le_refl _)
        ⟨fun x y hx hy => by
          have hx : x = g := (setβ_same _ n (fun x => x = g) x).1 hx
          have hy : y = g := (setβ_same _ n (fun x => x = g) y).1 hy
          rw [hx, hy], k11.take k, fun x hx => by
          have hx : x = g := (setβ_same _ n (fun x => x = g) x).1 hx
          rw [hx]
          refine ⟨cs1, hc1, by omega, fun j y hj => m3 j y ?_⟩
          rw [List.getElem?_take] at hj
          split at hj
          · exact hj
          · cases hj⟩
      have e : setBoxes σ.boxes [(b, .dead), (n, .digs T (L'.take k))] = ((σ.boxes.set b (.digs T L')).set b .dead).set n (.digs T (L'.take k)) := by
        simp only [setBoxes, List.set_set]
      refine ⟨_, rfl, _, by rw [e]; exact hR2, ?_⟩
      rw [e]
      simp only [V]
      have hbn : St.box { σ with boxes := ((σ.boxes.set b (.digs T L')).set b .dead).set n (.digs T (L'.take k)) } n = .digs T (L'.take k) := by
        show List.getD _ _ _ = _
        rw [box_set _ _ _ _ (by simpa using hn.len), if_pos rfl]
      rw [hbn]
      refine ⟨by simp, ⟨_, _, _, rfl⟩, fun T' l' hl => ?_⟩
      cases hl
      exact .inr ⟨g, cap, (setβ_same _ _ _ _).2 rfl, by rw [hlk, hlo], by omega, hmx, cs1, hc1, by omega⟩
    · cases he
  · cases he

end
end Go.AI

namespace Go.AI
open Go Go.RowKit
set_option linter.unusedVariables false
set_option linter.unusedSimpArgs false

section
variable {P : Program} {Inv : World → Prop} {na : Nat} {β0 : Nat → Nat → Prop} {w0 : World} {σ : St} {β : Nat → Nat → Prop} {a : Act} {w : World} {o : Oper} {bx : Nat → Box} {Φ : Nat → List AV → Option Spec} {dr : Bool} {n : Nat} {e : Eff}

theorem sound_value (hR : R na β0 w0 σ β a w) (hb : Sub bx σ.box) (hInv : Inv w) (hΦ : PhiOk P Inv Φ) {c : Call} (ho : o.op = .call c) {f : Operand} (hc : c.callee = .value f)
    (he : eff P Φ na dr σ.eval bx n o = some e) (hp : andO e.pre True) (hn : Free na σ n) : StepOk P na β0 w0 (σ.apply o.dst e) o a w := by
  have hVf := hR.V_eval f
  unfold eff at he
  rw [ho] at he
  simp only [hc] at he
  split at he
  · rename_i g caps hf
    rw [hf] at hVf
    simp only [V] at hVf
    obtain ⟨vs, hfv, hvs⟩ := hVf
    have hV := (evals_V hR c.args).append hvs
    obtain ⟨hent, hcall⟩ : Enters P g ∧ Calls P g ((c.args.map a.eval).toList ++ vs).toArray w fun en w' => ∃ v, en = .returned v ∧ ∃ β', R na β0 w0 { σ with boxes := setBoxes σ.boxes e.upd } β' a w' ∧ V ⟨St.box { σ with boxes := setBoxes σ.boxes e.upd }, β', w'⟩ e.val v := by
      split at he
      · rename_i e' he'
        cases he
        exact sound_handEff hR hb hInv hΦ hV he' hp hn
      · exact sound_callEff (dst := o.dst) hR hb hInv hΦ hV he hp hn
    intro next Q hnext
    have hrun : (execOp a.eval o).run P w = .ok (.enter g ((c.args.map a.eval).toList ++ vs).toArray) w := by
      have : execOp a.eval o = callFunc g ((c.args.map a.eval) ++ vs.toArray) := by
        simp only [execOp, ho, resolve, hc, hfv, Deferred.ofValue]
        simp [invoke]
      rw [this, hent]
      congr 2
      simp
    unfold Oper.wp
    rw [hrun, Oper.upon_enter]
    refine hcall.mono ?_
    rintro en w' ⟨v, rfl, β', h1, h2⟩
    exact hnext β' _ w' (h1.put o.dst h2)
  · cases he

theorem sound_builtin (hR : R na β0 w0 σ β a w) (hb : Sub bx σ.box) {c : Call} (ho : o.op = .call c) {b : Builtin} (hc : c.callee = .builtin b)
    (he : eff P Φ na dr σ.eval bx n o = some e) (hp : andO e.pre True) (hn : b = .append → Free na σ n) : StepOk P na β0 w0 (σ.apply o.dst e) o a w := by
  have hargs := evals_V hR c.args
  have hx := exec_builtin ho hc a
  unfold eff at he
  rw [ho] at he
  simp only [hc] at he
  unfold builtinEff at he
  cases b <;> simp only at he <;> try cases he
  case append =>
    split at he
    · rename_i t t' x y hty harg
      rw [harg] at hargs
      obtain ⟨u, v, huv, hu, hv⟩ := hargs.two
      split at he
      · rename_i htt
        subst htt
        have hrun : ∀ {r : Value} {w' : World}, (Builtin.append_ #[t, t] o.type #[u, v]).run P w = .ok r w' → (execOp a.eval o).run P w = .ok (.value r) w' := by
          intro r w' h
          rw [hx, toArray_of hty, toArray_of huv]
          simp only [builtin, Sem.run_bind, h, Result.andThen_ok, Sem.run_pure]
        have hap : ∃ β' w' r, (Builtin.append_ #[t, t] o.type #[u, v]).run P w = .ok r w' ∧ R na β0 w0 { σ with boxes := setBoxes σ.boxes e.upd } β' a w' ∧ V ⟨St.box { σ with boxes := setBoxes σ.boxes e.upd }, β', w'⟩ e.val r := by
          have he' := he
          unfold appendEff at he'
          split at he'
          · exact sound_append_nil hR hb hu hv he hp (hn rfl) o.type
          · exact sound_append_own hR hb hu hv he hp (hn rfl) o.type
          · cases he'
        obtain ⟨β', w', r, h1, h2, h3⟩ := hap
        exact StepOk.value (hrun h1) h2 h3
      · cases he
    · cases he
  case len =>
    split at he
    · rename_i t x hty harg
      rw [harg] at hargs
      obtain ⟨v, hv, hV⟩ := hargs.one
      obtain ⟨p, r, c', rfl, h1, h2⟩ := lenEff_ok hR hb hV he o.type
      refine StepOk.pure' hR (v := r) ?_ h2
      rw [hx, toArray_of hty, toArray_of hv]
      simp only [builtin, Sem.run_bind, h1, Result.andThen_ok, Sem.run_pure]
    · cases he
  case max =>
    split at he
    · rename_i x y harg
      rw [harg] at hargs
      obtain ⟨u, v, huv, hu, hv⟩ := hargs.two
      unfold maxEff at he
      split at he
      · split at he
        · rename_i e'; subst e'
          cases he
          obtain ⟨h1, h2, _, _⟩ := max2_V (P := P) (w := w) hu hv
          refine StepOk.pure' hR ?_ h2
          rw [hx, toArray_of huv]
          have h1' : ∀ tys ty, (Builtin.max_ tys ty #[u, v]).run P w = _ := fun tys ty => h1
          simp only [builtin, Sem.run_bind, h1', Result.andThen_ok, Sem.run_pure]
        · cases he
      · cases he
    · cases he
  case min =>
    split at he
    · rename_i x y harg
      rw [harg] at hargs
      obtain ⟨u, v, huv, hu, hv⟩ := hargs.two
      unfold minEff at he
      split at he
      · split at he
        · rename_i e'; subst e'
          cases he
          obtain ⟨_, _, h1, h2⟩ := max2_V (P := P) (w := w) hu hv
          refine StepOk.pure' hR ?_ h2
          rw [hx, toArray_of huv]
          have h1' : ∀ tys ty, (Builtin.min_ tys ty #[u, v]).run P w = _ := fun tys ty => h1
          simp only [builtin, Sem.run_bind, h1', Result.andThen_ok, Sem.run_pure]
        · cases he
      · cases he
    · cases he

theorem eff_sound (hR : R na β0 w0 σ β a w) (hb : Sub bx σ.box) (hInv : Inv w) (hΦ : PhiOk P Inv Φ)
    (he : eff P Φ na dr σ.eval bx n o = some e) (hp : andO e.pre True) (hn : allocates o.op = true → Free na σ n) : StepOk P na β0 w0 (σ.apply o.dst e) o a w := by
  cases ho : o.op with
  | move x => exact sound_move hR (.inl ho) he
  | assign x => exact sound_move hR (.inr ho) he
  | pick c x y => exact sound_pick hR ho he
  | alloc t => exact sound_alloc hR ho he (hn (by rw [ho]; rfl))
  | box t x => exact sound_box hR ho he (hn (by rw [ho]; rfl))
  | build t ps => exact sound_build hR ho he
  | buildSlice t len ps => exact sound_buildSlice hR ho he (hn (by rw [ho]; rfl))
  | load t x => exact sound_load hR hb ho he hp
  | store t x y => exact sound_store hR hb ho he hp
  | binOp op t x y t' => exact sound_binOp hR ho he hp
  | unOp op t x => exact sound_unOp hR ho he
  | convert t t' x => exact sound_convert hR ho he
  | makeSlice t x y => exact sound_make hR ho he hp (hn (by rw [ho]; rfl))
  | slice t x lo hi mx => exact sound_slice hR hb ho he hp
  | fieldAddr t x f => exact sound_fieldAddr hR hb ho he
  | field t x f => exact sound_field hR ho he
  | indexAddr t x ix => exact sound_indexAddr hR hb ho he hp
  | extract x i => exact sound_extract hR ho he
  | makeFunc fn first captured => exact sound_makeFunc hR ho he
  | call c =>
    cases hc : c.callee with
    | value f => exact sound_value hR hb hInv hΦ ho hc he hp (hn (by rw [ho]; simp [allocates, hc]))
    | builtin b => exact sound_builtin hR hb ho hc he hp (fun e' => hn (by rw [ho]; simp [allocates, hc, e']))
    | invoke r m => unfold eff at he; rw [ho] at he; simp only [hc] at he; cases he
  | _ => unfold eff at he; rw [ho] at he; simp at he

end
end Go.AI

namespace Go.AI
open Go Go.RowKit
set_option linter.unusedVariables false
set_option linter.unusedSimpArgs false

section
variable {na : Nat} {P : Program} {Φ : Nat → List AV → Option Spec} {dr : Bool} {n : Nat} {o : Oper} {bx bx' : Nat → Box} {ρ ρ' : Operand → AV} {e : Eff}

theorem eff_congr (h : ∀ x ∈ o.op.operands, ρ x = ρ' x) : eff P Φ na dr ρ bx n o = eff P Φ na dr ρ' bx n o := by
  unfold eff
  cases ho : o.op <;> rw [ho] at h <;> simp only [Op.operands] at h <;> (try dsimp only)
  case move x => rw [h x (by simp)]
  case assign x => rw [h x (by simp)]
  case pick c x y => rw [h c (by simp), h x (by simp), h y (by simp)]
  case box t x => rw [h x (by simp)]
  case build t ps =>
    have : (ps.toList.map fun (x : Nat × Operand) => (x.1, ρ x.2)) = ps.toList.map fun (x : Nat × Operand) => (x.1, ρ' x.2) := List.map_congr_left fun x hx => by rw [h x.2 (by simp; exact ⟨x.1, by simpa using hx⟩)]
    simp only [this]
  case buildSlice t len ps =>
    have : (ps.toList.map fun (x : Nat × Operand) => (x.1, ρ x.2)) = ps.toList.map fun (x : Nat × Operand) => (x.1, ρ' x.2) := List.map_congr_left fun x hx => by rw [h x.2 (by simp; exact ⟨x.1, by simpa using hx⟩)]
    simp only [this]
  case load t x => rw [h x (by simp)]
  case store t x y => simp only [h x (by simp), h y (by simp)]
  case binOp op t x y t' => rw [h x (by simp), h y (by simp)]
  case unOp op t x => rw [h x (by simp)]
  case convert t t' x => rw [h x (by simp)]
  case makeSlice t x y => rw [h x (by simp), h y (by simp)]
  case slice t x lo hi mx =>
    have h1 := h x (by simp)
    have h2 : ∀ y, lo = some y → ρ y = ρ' y := fun y e => h y (by simp [e])
    have h3 : ∀ y, hi = some y → ρ y = ρ' y := fun y e => h y (by simp [e])
    cases lo with
    | none => cases hi with
      | none => simp only [h1]
      | some v => simp only [h1, h3 v rfl]
    | some u => cases hi with
      | none => simp only [h1, h2 u rfl]
      | some v => simp only [h1, h2 u rfl, h3 v rfl]
  case fieldAddr t x f => rw [h x (by simp)]
  case field t x f => rw [h x (by simp)]
  case indexAddr t x ix => rw [h x (by simp), h ix (by simp)]
  case extract x i => rw [h x (by simp)]
  case makeFunc fn first captured =>
    have : captured.toList.map ρ = captured.toList.map ρ' := List.map_congr_left fun x hx => h x (by simp; exact .inr (by simpa using hx))
    cases fn <;> simp only [this]
  case call c =>
    have : c.args.toList.map ρ = c.args.toList.map ρ' := List.map_congr_left fun x hx => h x (by simp [Call.operands]; exact .inr (by simpa using hx))
    cases hc : c.callee with
    | value f => simp only [this, h f (by simp [Call.operands, hc])]
    | builtin b => simp only [this]
    | invoke r m => rfl

/-- an operation that does not look at memory -/
theorem eff_nomem (h : isMem o.op = false) : eff P Φ na dr ρ bx n o = eff P Φ na dr ρ bx' n o := by
  unfold eff
  cases ho : o.op <;> rw [ho] at h <;> simp [isMem] at h <;> first | rfl | (rename_i fn _ _; cases fn <;> rfl)

theorem freeze_upd : ∀ (p : List Nat) {u : List (Nat × Box)}, freeze bx dr p = some u → ∀ x ∈ u, dr = false ∧ bx x.1 ≠ .unborn
  | [], u, h => by simp [freeze] at h; subst h; simp
  | i :: p, u, h => by
    unfold freeze at h
    split at h
    · exact freeze_upd p h
    · rename_i T l hi
      split at h
      · cases h
      · rename_i hd
        split at h
        · rename_i u' hu'
          cases h
          intro x hx
          rcases List.mem_cons.1 hx with rfl | hx
          · exact ⟨by simpa using hd, by rw [hi]; simp⟩
          · exact freeze_upd p hu' x hx
        · cases h
    · cases h

theorem ownIds_arena : ∀ {p : List Nat}, ownIds na bx p = true → ∀ i ∈ p, bx i = .arena
  | [], _, i, hi => by simp at hi
  | j :: p, h, i, hi => by
    unfold ownIds at h
    simp only [Bool.and_eq_true, decide_eq_true_eq] at h
    rcases List.mem_cons.1 hi with rfl | hi
    · have := h.1.2
      split at this
      · assumption
      · cases this
    · exact ownIds_arena h.2 i hi

theorem handOf_live {c : AV} {b : Nat} {T : TypeId} {L : List Nat} {lo len : Nat} (h : handOf bx c = some (b, T, L, lo, len)) : bx b = .digs T L := by
  unfold handOf at h
  split at h
  · split at h
    · rename_i e; cases h; exact e
    · cases h
  · split at h
    · rename_i e; cases h; exact e
    · cases h
  · cases h
/-- which boxes an operation lays anew -/
theorem eff_upd (he : eff P Φ na dr ρ bx n o = some e) : ∀ x ∈ e.upd, (x.1 = n ∧ allocates o.op = true) ∨ ((isStore o.op = true ∨ dr = false) ∧ bx x.1 ≠ .unborn) := by
  unfold eff at he
  cases ho : o.op <;> rw [ho] at he <;> simp only at he
  case call c =>
    cases hc : c.callee with
    | value f =>
      simp only [hc] at he
      split at he
      · split at he
        · rename_i e' he'
          cases he
          unfold handEff at he'
          split at he'
          · cases he'
          split at he'
          · cases he'
          rename_i b T L lo len hh
          split at he'
          · cases he'
          split at he'
          · cases he'
          split at he'
          · cases he'
          rename_i hdr
          simp only [Bool.or_eq_true, not_or, Bool.not_eq_true] at hdr
          have hbx : bx b ≠ .unborn := by rw [handOf_live hh]; simp
          split at he'
          · cases he'
            intro x hx
            simp at hx
            rcases hx with rfl | rfl
            · exact .inl ⟨rfl, by simp [allocates, hc]⟩
            · exact .inr ⟨.inr hdr.1, hbx⟩
          · split at he'
            · cases he'
              intro x hx
              simp at hx
              rcases hx with rfl | rfl
              · exact .inr ⟨.inr hdr.1, hbx⟩
              · exact .inl ⟨rfl, by simp [allocates, hc]⟩
            · cases he'
          · cases he'
        unfold callEff at he
        split at he
        · cases he
        · split at he
          · cases he
          · split at he
            · split at he
              · rename_i hown
                cases he
                simp only [Bool.and_eq_true, Bool.not_eq_true'] at hown
                intro x hx
                obtain ⟨i, hi, rfl⟩ := List.mem_map.1 hx
                exact .inr ⟨.inr hown.1, by rw [ownIds_arena hown.2 i hi]; simp⟩
              · cases he
            · split at he
              · cases he
                intro x hx
                simp at hx
                subst hx
                exact .inl ⟨rfl, by simp [allocates, hc]⟩
              · cases he
              split at he
              · cases he
              · rename_i u hu
                cases he
                intro x hx
                rcases List.mem_cons.1 hx with rfl | hx
                · exact .inl ⟨rfl, by simp [allocates, hc]⟩
                · obtain ⟨h1, h2⟩ := freeze_upd _ hu x hx
                  exact .inr ⟨.inr h1, h2⟩
      · cases he
    | builtin b =>
      simp only [hc] at he
      unfold builtinEff at he
      cases b <;> simp only at he <;> try cases he
      case append =>
        split at he
        · split at he
          · unfold appendEff at he
            split at he
            · split at he
              · split at he
                · cases he; intro x hx; simp at hx; subst hx; exact .inl ⟨rfl, by simp [allocates, hc]⟩
                · cases he
              · cases he
            · split at he
              · rename_i hb _
                split at he
                · cases he
                  intro x hx
                  simp at hx
                  rcases hx with rfl | rfl
                  · exact .inr ⟨.inl (by simp [isStore, hc]), by rw [hb]; simp⟩
                  · exact .inl ⟨rfl, by simp [allocates, hc]⟩
                · cases he
              · cases he
            · cases he
          · cases he
        · cases he
      case len =>
        split at he
        · unfold lenEff at he
          (repeat' split at he) <;> cases he <;> simp
        · cases he
      case max =>
        split at he
        · unfold maxEff at he
          (repeat' split at he) <;> cases he <;> simp
        · cases he
      case min =>
        split at he
        · unfold minEff at he
          (repeat' split at he) <;> cases he <;> simp
        · cases he
    | invoke r m => simp only [hc] at he; cases he
  case store t x y =>
    split at he
    · split at he
      · rename_i hb
        split at he
        · split at he
          · cases he; intro x hx; simp at hx; subst hx; exact .inr ⟨.inl rfl, by rw [hb]; simp⟩
          · cases he
        · cases he
      · rename_i hb
        split at he
        · cases he; intro x hx; simp at hx; subst hx; exact .inr ⟨.inl rfl, by rw [hb]; simp⟩
        · cases he
      · cases he
    · cases he
  case makeFunc fn first captured =>
    cases fn <;> simp only at he
    case func f =>
      split at he
      · cases he; simp
      · cases he
    all_goals cases he
  all_goals
    (repeat' split at he) <;> cases he <;> simp [allocates]

end
end Go.AI

namespace Go.AI
open Go Go.RowKit
set_option linter.unusedVariables false
set_option linter.unusedSimpArgs false

theorem shareV_inst : ∀ {v : AV} {k : AV → Prop}, shareV v k → k v
  | .dig p l, k, h => h l rfl
  | .num kd n, k, h => h n rfl
  | .bool b, k, h => h b rfl
  | .junk, k, h => h
  | .nilS, k, h => h
  | .vec .., k, h => h
  | .agg _, k, h => h
  | .tup _, k, h => h
  | .addr .., k, h => h
  | .own _, k, h => h
  | .cref .., k, h => h
  | .fn .., k, h => h
  | .grown .., k, h => h
  | .boxv _, k, h => h
  | .hand .., k, h => h
  | .handv .., k, h => h
theorem shareVs_inst : ∀ {l : List AV} {k : List AV → Prop}, shareVs l k → k l
  | [], _, h => h
  | v :: l, k, h => shareVs_inst (l := l) (k := fun l' => k (v :: l')) (shareV_inst (v := v) (k := fun v' => shareVs l fun l' => k (v' :: l')) h)
theorem shareW_inst {v : AV} {k : AV → Prop} (h : shareW v k) : k v := by
  unfold shareW at h
  split at h
  · exact shareVs_inst h
  · exact shareV_inst h
theorem shareWs_inst : ∀ {l : List AV} {k : List AV → Prop}, shareWs l k → k l
  | [], _, h => h
  | v :: l, k, h => shareWs_inst (l := l) (k := fun l' => k (v :: l')) (shareW_inst (v := v) (k := fun v' => shareWs l fun l' => k (v' :: l')) h)
theorem share_inst {v : AV} {k : AV → Prop} (h : share v k) : k v := by
  unfold share at h
  split at h
  · exact shareVs_inst h
  · exact shareWs_inst h
  · exact h

theorem stepK_inst {b c : Bool} {e : Eff} {k : Eff → Prop} (h : cond b (share e.val fun v => k ⟨e.pre, v, e.upd⟩) (cond c (shareV e.val fun v => k ⟨e.pre, v, e.upd⟩) (k e))) : k e := by
  cases b
  · cases c
    · exact h
    · exact shareV_inst (k := fun v => k ⟨e.pre, v, e.upd⟩) h
  · exact share_inst (k := fun v => k ⟨e.pre, v, e.upd⟩) h

theorem andO_split {p : Option Prop} {q : Prop} (h : andO p q) : andO p True ∧ q := by
  cases p with
  | none => exact ⟨trivial, h⟩
  | some p => exact ⟨⟨h.1, trivial⟩, h.2⟩

theorem setBoxes_length : ∀ (u : List (Nat × Box)) (bs : List Box), (setBoxes bs u).length = bs.length
  | [], _ => rfl
  | (i, b) :: u, bs => by simp [setBoxes, setBoxes_length u]

theorem setBoxes_other : ∀ (u : List (Nat × Box)) (bs : List Box) (j : Nat), (∀ x ∈ u, x.1 ≠ j) → (setBoxes bs u).getD j .unborn = bs.getD j .unborn
  | [], _, _, _ => rfl
  | (i, b) :: u, bs, j, h => by
    simp only [setBoxes]
    rw [setBoxes_other u _ j (fun x hx => h x (by simp [hx]))]
    have hij : i ≠ j := h (i, b) (by simp)
    simp [List.getD, List.getElem?_set, hij]

theorem St.box_put (σ : St) (d : Option Tmp) (v : AV) : (σ.put d v).box = σ.box := by cases d <;> rfl
theorem St.boxes_put (σ : St) (d : Option Tmp) (v : AV) : (σ.put d v).boxes = σ.boxes := by cases d <;> rfl
theorem St.boxes_apply (σ : St) (d : Option Tmp) (e : Eff) : (σ.apply d e).boxes = setBoxes σ.boxes e.upd := by simp only [St.apply, St.boxes_put]

section
variable {P : Program} {Inv : World → Prop} {na : Nat} {β0 : Nat → Nat → Prop} {w0 : World} {σ : St} {β : Nat → Nat → Prop} {a : Act} {w : World} {Φ : Nat → List AV → Option Spec} {ops : Array Oper}

/-- the boxes that the operations of L will need are unborn -/
def Ready (na : Nat) (σ : St) (m : Nat) (L : List Oper) : Prop := na < m ∧ (∀ i, m ≤ i → σ.box i = .unborn) ∧ m + countAllocs L ≤ σ.boxes.length

theorem R.put_same (h : R na β0 w0 σ β a w) {d : Nat} {b : Bool} (hd : σ.tmps.getD d .junk = .bool b) : σ.put (some d) (.bool b) = σ ∧ a.tmps[d]? = some (.bool b) := by
  have hs : σ.tmps[d]? = some (.bool b) := by
    cases hc : σ.tmps[d]? with
    | none => simp [List.getD, hc] at hd
    | some c => simp [List.getD, hc] at hd; rw [hd]
  refine ⟨?_, ?_⟩
  · have hlt : d < σ.tmps.length := (List.getElem?_eq_some_iff.1 hs).1
    have : σ.tmps.set d (.bool b) = σ.tmps := by
      apply List.ext_getElem?
      intro j
      rw [List.getElem?_set]
      split
      · rename_i e; subst e; simp [hlt, hs]
        have := List.getElem?_eq_some_iff.1 hs
        exact this.2.symm
      · rfl
    show ({ σ with tmps := σ.tmps.set d (.bool b) } : St) = σ
    rw [this]
  · obtain ⟨v, h1, h2⟩ := h.tmps.get hs
    have := h2.bool_inv
    subst this
    simpa using h1

theorem wanted_of (h : R na β0 w0 σ β a w) {j d : Nat} {b want : Bool} {o : Oper} (hg : o.guard = some (j, want)) (hj : (ops[j]?).bind (·.dst) = some d) (hd : σ.tmps.getD d .junk = .bool b) :
    Region.wanted o (yielded ops a.tmps) = (b == want) := by
  obtain ⟨_, h2⟩ := h.put_same hd
  simp only [Region.wanted, hg, yielded, hj, Option.bind_some, h2]
  cases b <;> cases want <;> rfl

theorem V_undef {C : Ctx} : V C (.tup []) undef := by simp only [V]; exact ⟨[], rfl, by simp only [Vs]⟩

theorem unwanted_of (h : R na β0 w0 σ β a w) {j d : Nat} {want : Bool} {o : Oper} (hg : o.guard = some (j, want)) (hj : (ops[j]?).bind (·.dst) = some d) (hd : σ.tmps.getD d .junk = .tup []) :
    Region.wanted o (yielded ops a.tmps) = false := by
  have hs : σ.tmps[d]? = some (.tup []) := by
    cases hc : σ.tmps[d]? with
    | none => simp [List.getD, hc] at hd
    | some c => simp [List.getD, hc] at hd; rw [hd]
  obtain ⟨v, h1, h2⟩ := h.tmps.get hs
  simp only [V] at h2
  obtain ⟨vs, rfl, -⟩ := h2
  have h1' : a.tmps[d]? = some (.tuple vs.toArray) := by simpa using h1
  simp only [Region.wanted, hg, yielded, hj, Option.bind_some, h1']
  rfl

theorem step_sound (hR : R na β0 w0 σ β a w) (hInv : Inv w) (hΦ : PhiOk P Inv Φ) {drawn : Bool} {lim : Nat → Bool} {x : Nat × Oper} {k : St → Prop} (h : stepK P Φ na drawn lim σ x k) (hn : allocates x.2.op = true → Free na σ x.1) :
    ∃ e, eff P Φ na drawn σ.eval (if drawn && !isStore x.2.op then mask lim σ.box else σ.box) x.1 x.2 = some e ∧ andO e.pre True ∧ k (σ.apply x.2.dst e) ∧ StepOk P na β0 w0 (σ.apply x.2.dst e) x.2 a w := by
  unfold stepK at h
  split at h
  · rename_i e he
    obtain ⟨h1, h2⟩ := andO_split h
    refine ⟨e, he, h1, stepK_inst (k := fun e => k (σ.apply x.2.dst e)) h2, ?_⟩
    have hb : Sub (if drawn && !isStore x.2.op then mask lim σ.box else σ.box) σ.box := by
      split
      · exact Sub.mask _ _
      · exact Sub.refl _
    exact eff_sound hR hb hInv hΦ he h1 hn
  · exact h.elim

theorem Ready.step {m : Nat} {o : Oper} {L : List Oper} (h : Ready na σ m (o :: L)) {bx : Nat → Box} (hb : Sub bx σ.box) {dr : Bool} {e : Eff} (he : eff P Φ na dr σ.eval bx m o = some e) :
    Ready na (σ.apply o.dst e) (if allocates o.op then m + 1 else m) L := by
  obtain ⟨h1, h2, h3⟩ := h
  have hu := eff_upd he
  have hlen : (σ.apply o.dst e).boxes.length = σ.boxes.length := by rw [St.boxes_apply, setBoxes_length]
  refine ⟨by split <;> omega, fun i hi => ?_, ?_⟩
  · have hmi : m ≤ i := by split at hi <;> omega
    show List.getD _ _ _ = _
    rw [St.boxes_apply, setBoxes_other]
    · exact h2 i hmi
    · intro x hx e'
      rcases hu x hx with ⟨q1, q2⟩ | ⟨_, q2⟩
      · rw [q2] at hi; simp at hi; omega
      · rcases hb x.1 with h' | h'
        · exact q2 h'
        · rw [e'] at h'; rw [h2 i hmi] at h'; exact q2 (e' ▸ h')
  · rw [hlen]
    simp only [countAllocs] at h3
    split <;> rename_i ha <;> simp [ha] at h3 <;> omega

theorem Ready.free {m : Nat} {o : Oper} {L : List Oper} (h : Ready na σ m (o :: L)) (ha : allocates o.op = true) : Free na σ m :=
  ⟨h.1, by have := h.2.2; simp [countAllocs, ha] at this; omega, h.2.1 m (Nat.le_refl _)⟩

theorem Ready.put {m : Nat} {o : Oper} {L : List Oper} (h : Ready na σ m (o :: L)) (d : Option Tmp) (v : AV) : Ready na (σ.put d v) (if allocates o.op then m + 1 else m) L := by
  obtain ⟨h1, h2, h3⟩ := h
  refine ⟨by split <;> omega, fun i hi => ?_, ?_⟩
  · rw [St.box_put]; exact h2 i (by split at hi <;> omega)
  · rw [St.boxes_put]
    simp only [countAllocs] at h3
    split <;> rename_i ha <;> simp [ha] at h3 <;> omega

/-- a region in the text's order -/
theorem evR_seq (hΦ : PhiOk P Inv Φ) (hGrow : ∀ w', GrowS (β0 (na + 1)) w0 w' → Inv w') {Q : Exit → Act → World → Prop} {K : St → Prop}
    (hK : ∀ σ β a w, R na β0 w0 σ β a w → K σ → Q .normal a w) (lim : Nat) : ∀ (L : List Oper) (m : Nat) (σ : St) (β : Nat → Nat → Prop) (a : Act) (w : World), R na β0 w0 σ β a w → Ready na σ m L →
    evR P Φ na false lim ops (number m L) σ K → wpList P ops Q L a w
  | [], m, σ, β, a, w, hR, _, h => hK σ β a w hR h
  | o :: L, m, σ, β, a, w, hR, hrd, h => by
    have hInv : Inv w := hGrow _ hR.grow
    simp only [number, evR] at h
    have take : ∀ {k}, stepK P Φ na false (sees lim ops o) σ (m, o) k → (∀ σ', k σ' → evR P Φ na false lim ops (number (if allocates o.op then m + 1 else m) L) σ' K) → Region.wanted o (yielded ops a.tmps) = true → wpList P ops Q (o :: L) a w := by
      intro k hs hk hw
      obtain ⟨e, he, _, h2, h3⟩ := step_sound hR hInv hΦ hs (fun ha => hrd.free ha)
      unfold wpList
      rw [if_pos hw]
      refine .inl (h3 _ _ fun β' a' w' hR' => ?_)
      exact evR_seq hΦ hGrow hK lim L _ _ β' a' w' hR' (hrd.step (Sub.refl _) he) (hk _ h2)
    have pass : evR P Φ na false lim ops (number (if allocates o.op then m + 1 else m) L) (σ.put o.dst (.tup [])) K → Region.wanted o (yielded ops a.tmps) = false → wpList P ops Q (o :: L) a w := by
      intro hs hw
      unfold wpList
      rw [if_neg (by simp [hw])]
      exact evR_seq hΦ hGrow hK lim L _ _ β _ w (hR.put o.dst V_undef) (hrd.put _ _) hs
    split at h
    · rename_i hg
      exact take h (fun _ h => h) (by simp [Region.wanted, hg])
    · rename_i j want hg
      split at h
      · exact h.elim
      · rename_i d hj
        split at h
        · rename_i b hd
          have hw := wanted_of (ops := ops) hR hg hj hd
          obtain ⟨hput, _⟩ := hR.put_same hd
          cases b <;> simp only [cond_true, cond_false] at h <;> rw [hput] at h <;> cases want <;> simp only [cond_true, cond_false] at h
          · exact take h (fun _ h => h) hw
          · exact pass h hw
          · exact pass h hw
          · exact take h (fun _ h => h) hw
        · rename_i hd
          exact pass h (unwanted_of hR hg hj hd)
        · exact h.elim

end
end Go.AI

namespace Go.AI
open Go Go.RowKit
set_option linter.unusedVariables false
set_option linter.unusedSimpArgs false

section
variable {P : Program} {Inv : World → Prop} {na : Nat} {β0 : Nat → Nat → Prop} {w0 : World} {σ : St} {β : Nat → Nat → Prop} {a : Act} {w : World} {Φ : Nat → List AV → Option Spec} {ops : Array Oper}

def lookBox (ops : Array Oper) (lim : Nat) (σ : St) (o : Oper) : Nat → Box := if isStore o.op then σ.box else mask (sees lim ops o) σ.box

/-- the operation itself -/
def Does (P : Program) (Φ : Nat → List AV → Option Spec) (na : Nat) (ops : Array Oper) (lim : Nat) (σ : St) (x : Nat × Oper) (σ' : St) : Prop :=
  ∃ e, eff P Φ na true σ.eval (lookBox ops lim σ x.2) x.1 x.2 = some e ∧ andO e.pre True ∧ σ' = σ.apply x.2.dst e

/-- what a guard's value says: does the operation run? -/
def Goes (v : AV) (want go : Bool) : Prop := (∃ b, v = .bool b ∧ go = (b == want)) ∨ (v = .tup [] ∧ go = false)

/-- the operation as its guard lets it -/
def StepR (P : Program) (Φ : Nat → List AV → Option Spec) (na : Nat) (ops : Array Oper) (lim : Nat) (σ : St) (x : Nat × Oper) (σ' : St) : Prop :=
  match x.2.guard with
  | none => Does P Φ na ops lim σ x σ'
  | some (j, want) => ∃ d b, (ops[j]?).bind (·.dst) = some d ∧ Goes (σ.tmps.getD d .junk) want b ∧ (if b = true then Does P Φ na ops lim σ x σ' else σ' = σ.put x.2.dst (.tup []))

def Runs (P : Program) (Φ : Nat → List AV → Option Spec) (na : Nat) (ops : Array Oper) (lim : Nat) : List (Nat × Oper) → St → St → Prop
  | [], σ, σ' => σ' = σ
  | x :: L, σ, σ' => ∃ σ1, StepR P Φ na ops lim σ x σ1 ∧ Runs P Φ na ops lim L σ1 σ'

theorem runs_append {lim : Nat} : ∀ (A B : List (Nat × Oper)) (σ σ' : St), Runs P Φ na ops lim (A ++ B) σ σ' ↔ ∃ σ1, Runs P Φ na ops lim A σ σ1 ∧ Runs P Φ na ops lim B σ1 σ'
  | [], B, σ, σ' => by simp [Runs]
  | x :: A, B, σ, σ' => by
    simp only [List.cons_append, Runs, runs_append A B]
    constructor
    · rintro ⟨σ1, h1, σ2, h2, h3⟩; exact ⟨σ2, ⟨σ1, h1, h2⟩, h3⟩
    · rintro ⟨σ2, ⟨σ1, h1, h2⟩, h3⟩; exact ⟨σ1, h1, σ2, h2, h3⟩

theorem put_self {σ : St} {d : Nat} {b : Bool} (hd : σ.tmps.getD d .junk = .bool b) : σ.put (some d) (.bool b) = σ := by
  have hs : σ.tmps[d]? = some (.bool b) := by
    cases hc : σ.tmps[d]? with
    | none => simp [List.getD, hc] at hd
    | some c => simp [List.getD, hc] at hd; rw [hd]
  have hlt : d < σ.tmps.length := (List.getElem?_eq_some_iff.1 hs).1
  have : σ.tmps.set d (.bool b) = σ.tmps := by
    apply List.ext_getElem?
    intro j
    rw [List.getElem?_set]
    split
    · rename_i e; subst e; simp [hlt]
      have := List.getElem?_eq_some_iff.1 hs
      exact this.2.symm
    · rfl
  show ({ σ with tmps := σ.tmps.set d (.bool b) } : St) = σ
  rw [this]

theorem does_of_stepK {lim : Nat} {x : Nat × Oper} {k : St → Prop} (h : stepK P Φ na true (sees lim ops x.2) σ x k) : ∃ σ', Does P Φ na ops lim σ x σ' ∧ k σ' := by
  unfold stepK at h
  split at h
  · rename_i e he
    obtain ⟨h1, h2⟩ := andO_split h
    refine ⟨_, ⟨e, ?_, h1, rfl⟩, stepK_inst (k := fun e => k (σ.apply x.2.dst e)) h2⟩
    have : (if true && !isStore x.2.op then mask (sees lim ops x.2) σ.box else σ.box) = lookBox ops lim σ x.2 := by
      unfold lookBox
      cases isStore x.2.op <;> rfl
    rw [← this]
    exact he
  · exact h.elim

theorem runs_of_evR {lim : Nat} {K : St → Prop} : ∀ (L : List (Nat × Oper)) (σ : St), evR P Φ na true lim ops L σ K → ∃ σ', Runs P Φ na ops lim L σ σ' ∧ K σ'
  | [], σ, h => ⟨σ, rfl, h⟩
  | x :: L, σ, h => by
    simp only [evR] at h
    split at h
    · rename_i hg
      obtain ⟨σ1, h1, h2⟩ := does_of_stepK h
      obtain ⟨σ2, h3, h4⟩ := runs_of_evR L σ1 h2
      exact ⟨σ2, ⟨σ1, by unfold StepR; rw [hg]; exact h1, h3⟩, h4⟩
    · rename_i j want hg
      split at h
      · exact h.elim
      · rename_i d hj
        split at h
        · rename_i b hd
          have hput := put_self hd
          have take : stepK P Φ na true (sees lim ops x.2) σ x (fun σ' => evR P Φ na true lim ops L σ' K) → b = want → ∃ σ', Runs P Φ na ops lim (x :: L) σ σ' ∧ K σ' := by
            intro hs hb
            obtain ⟨σ1, h1, h2⟩ := does_of_stepK hs
            obtain ⟨σ2, h3, h4⟩ := runs_of_evR L σ1 h2
            refine ⟨σ2, ⟨σ1, ?_, h3⟩, h4⟩
            unfold StepR
            rw [hg]
            exact ⟨d, true, hj, .inl ⟨b, hd, by simp [hb]⟩, by rw [if_pos rfl]; exact h1⟩
          have pass : evR P Φ na true lim ops L (σ.put x.2.dst (.tup [])) K → b ≠ want → ∃ σ', Runs P Φ na ops lim (x :: L) σ σ' ∧ K σ' := by
            intro hs hb
            obtain ⟨σ2, h3, h4⟩ := runs_of_evR L _ hs
            refine ⟨σ2, ⟨_, ?_, h3⟩, h4⟩
            unfold StepR
            rw [hg]
            exact ⟨d, false, hj, .inl ⟨b, hd, by simp [hb]⟩, by rw [if_neg (by simp)]⟩
          cases b <;> simp only [cond_true, cond_false] at h <;> rw [hput] at h <;> cases want <;> simp only [cond_true, cond_false] at h
          · exact take h rfl
          · exact pass h (by simp)
          · exact pass h (by simp)
          · exact take h rfl
        · rename_i hd
          obtain ⟨σ2, h3, h4⟩ := runs_of_evR L _ h
          refine ⟨σ2, ⟨_, ?_, h3⟩, h4⟩
          unfold StepR
          rw [hg]
          exact ⟨d, false, hj, .inr ⟨hd, rfl⟩, by rw [if_neg (by simp)]⟩
        · exact h.elim

/-! two independent operations may change places -/

theorem eval_put {σ : St} {dst : Option Tmp} {v : AV} {x : Operand} (h : ∀ d, dst = some d → x ≠ .tmp d) : (σ.put dst v).eval x = σ.eval x := by
  cases dst with
  | none => rfl
  | some d =>
    cases x with
    | tmp t =>
      have hne : d ≠ t := fun e => h d rfl (e ▸ rfl)
      show (σ.tmps.set d v).getD t .junk = σ.tmps.getD t .junk
      simp [List.getD, List.getElem?_set, hne]
    | _ => rfl

theorem eval_boxes (σ : St) (bs : List Box) (x : Operand) : St.eval { σ with boxes := bs } x = σ.eval x := by cases x <;> rfl

theorem eval_apply {σ : St} {dst : Option Tmp} {e : Eff} {x : Operand} (h : ∀ d, dst = some d → x ≠ .tmp d) : (σ.apply dst e).eval x = σ.eval x := by
  unfold St.apply
  rw [eval_put h, eval_boxes]

theorem tmp_put {σ : St} {dst : Option Tmp} {v : AV} {d : Nat} (h : dst ≠ some d) : (σ.put dst v).tmps.getD d .junk = σ.tmps.getD d .junk := by
  cases dst with
  | none => rfl
  | some t =>
    have hne : t ≠ d := fun e => h (e ▸ rfl)
    show (σ.tmps.set t v).getD d .junk = σ.tmps.getD d .junk
    simp [List.getD, List.getElem?_set, hne]

theorem tmp_apply {σ : St} {dst : Option Tmp} {e : Eff} {d : Nat} (h : dst ≠ some d) : (σ.apply dst e).tmps.getD d .junk = σ.tmps.getD d .junk := by
  unfold St.apply
  rw [tmp_put h]

theorem put_comm {σ : St} {x y : Option Tmp} (u v : AV) (h : ∀ d, x = some d → y ≠ some d) : (σ.put x u).put y v = (σ.put y v).put x u := by
  cases x with
  | none => cases y <;> rfl
  | some d =>
    cases y with
    | none => rfl
    | some t =>
      have hne : d ≠ t := fun e => h d rfl (e ▸ rfl)
      show ({ σ with tmps := (σ.tmps.set d u).set t v } : St) = { σ with tmps := (σ.tmps.set t v).set d u }
      rw [List.set_comm _ _ hne]

theorem put_boxes (σ : St) (x : Option Tmp) (u : AV) (bs : List Box) : St.put { σ with boxes := bs } x u = { σ.put x u with boxes := bs } := by cases x <;> rfl

theorem setBoxes_comm : ∀ (u v : List (Nat × Box)) (bs : List Box), (∀ x ∈ u, ∀ y ∈ v, x.1 ≠ y.1) → setBoxes (setBoxes bs u) v = setBoxes (setBoxes bs v) u
  | [], v, bs, _ => rfl
  | (i, b) :: u, v, bs, h => by
    have one : ∀ (v : List (Nat × Box)) (bs : List Box), (∀ y ∈ v, i ≠ y.1) → setBoxes (bs.set i b) v = (setBoxes bs v).set i b := by
      intro v
      induction v with
      | nil => intro bs _; rfl
      | cons y v ih =>
        intro bs hv
        obtain ⟨j, c⟩ := y
        simp only [setBoxes]
        have hij : i ≠ j := hv (j, c) (by simp)
        rw [List.set_comm _ _ hij, ih _ (fun y hy => hv y (by simp [hy]))]
    simp only [setBoxes]
    rw [setBoxes_comm u v _ (fun x hx y hy => h x (by simp [hx]) y hy), one v bs (fun y hy => h (i, b) (by simp) y hy)]

theorem apply_comm {σ : St} {x y : Option Tmp} {e f : Eff} (h : ∀ d, x = some d → y ≠ some d) (hu : ∀ p ∈ e.upd, ∀ q ∈ f.upd, p.1 ≠ q.1) : (σ.apply x e).apply y f = (σ.apply y f).apply x e := by
  simp only [St.apply, put_boxes, St.boxes_put]
  have := put_comm (σ := σ) e.val f.val h
  rw [setBoxes_comm _ _ _ hu]
  cases x <;> cases y <;> simp_all [St.put]

theorem mask_congr {lim : Nat → Bool} {f g : Nat → Box} (h : ∀ i, lim i = true → f i = g i) : mask lim f = mask lim g := by
  funext i
  unfold mask
  split
  · rename_i hi; exact h i hi
  · rfl

theorem box_apply {σ : St} {dst : Option Tmp} {e : Eff} {j : Nat} (h : ∀ x ∈ e.upd, x.1 ≠ j) : (σ.apply dst e).box j = σ.box j := by
  show List.getD _ _ _ = List.getD _ _ _
  rw [St.boxes_apply, setBoxes_other _ _ _ h]

/-- what the one does hangs not on the other -/
structure Indep (ops : Array Oper) (lim : Nat) (x y : Nat × Oper) : Prop where
  apart : x.2.apart ops y.2 = true
  mem : (isStore x.2.op = true → isMem y.2.op = false) ∧ (isStore y.2.op = true → isMem x.2.op = false)
  lx : lim ≤ x.1
  ly : lim ≤ y.1
  ne : allocates x.2.op = true → allocates y.2.op = true → x.1 ≠ y.1
  seen : (allocates x.2.op = true → x.1 ∉ vis lim ops y.2) ∧ (allocates y.2.op = true → y.1 ∉ vis lim ops x.2)

theorem Indep.symm {lim : Nat} {x y : Nat × Oper} (h : Indep ops lim x y) : Indep ops lim y x := by
  refine ⟨?_, ⟨h.mem.2, h.mem.1⟩, h.ly, h.lx, fun a b e => h.ne b a e.symm, h.seen.2, h.seen.1⟩
  obtain ⟨h1, h2, h3⟩ := Oper.apart_spec h.apart
  unfold Oper.apart
  simp only [Bool.and_eq_true]
  refine ⟨?_, ?_⟩
  · cases hd : y.2.dst with
    | none => rfl
    | some d =>
      simp only [Bool.and_eq_true, Bool.not_eq_true', bne_iff_ne, ne_eq]
      exact ⟨by simpa using h3 d hd, fun e => h2 d e hd⟩
  · cases hd : x.2.dst with
    | none => rfl
    | some d => simpa using h1 d hd

theorem isStore_isMem {op : Op} (h : isStore op = true) : isMem op = true := by
  cases op <;> simp [isStore] at h <;> rfl

theorem alloc_isMem {op : Op} (h : allocates op = true) : isMem op = true := by
  cases op <;> simp [allocates] at h <;> rfl

theorem operand_look {o : Oper} {t : Nat} (h : Operand.tmp t ∈ o.op.operands) : t ∈ o.looksAt ops := by
  simp only [Oper.looksAt, List.mem_append, List.mem_filterMap]
  exact .inl ⟨.tmp t, by simpa using h, rfl⟩

/-- an operation does the same behind an independent one -/
theorem Does.behind {lim : Nat} {x y : Nat × Oper} (hi : Indep ops lim x y) {σ : St} {e : Eff} (he : eff P Φ na true σ.eval (lookBox ops lim σ x.2) x.1 x.2 = some e) (σ1 : St) (hσ1 : σ1 = σ.apply x.2.dst e) :
    eff P Φ na true σ1.eval (lookBox ops lim σ1 y.2) y.1 y.2 = eff P Φ na true σ.eval (lookBox ops lim σ y.2) y.1 y.2 := by
  obtain ⟨h1, h2, h3⟩ := Oper.apart_spec hi.apart
  subst hσ1
  rw [eff_congr (ρ' := σ.eval) fun z hz => eval_apply fun d hd e' => by subst e'; exact h1 d hd (operand_look hz)]
  by_cases hm : isMem y.2.op = true
  · have hxs : isStore x.2.op = false := by
      cases hs : isStore x.2.op with
      | false => rfl
      | true => rw [hi.mem.1 hs] at hm; cases hm
    have hup : ∀ p ∈ e.upd, p.1 = x.1 ∧ allocates x.2.op = true := fun p hp => by
      rcases eff_upd he p hp with h | ⟨h | h, _⟩
      · exact h
      · rw [hxs] at h; cases h
      · cases h
    by_cases hys : isStore y.2.op = true
    · have hxm := hi.mem.2 hys
      have : e.upd = [] := by
        cases hu : e.upd with
        | nil => rfl
        | cons p u =>
          have := (hup p (by rw [hu]; simp)).2
          rw [alloc_isMem this] at hxm; cases hxm
      have hb : (σ.apply x.2.dst e).box = σ.box := by
        funext j
        exact box_apply (by rw [this]; simp)
      unfold lookBox
      rw [hb]
    · unfold lookBox
      rw [if_neg hys, if_neg hys, mask_congr (g := σ.box) fun i hil => box_apply fun p hp e' => by
        obtain ⟨u1, u2⟩ := hup p hp
        have := hi.lx
        unfold sees at hil
        simp only [Bool.or_eq_true, decide_eq_true_eq, List.contains_iff_mem] at hil
        rcases hil with hil | hil
        · omega
        · rw [u1] at e'; rw [← e'] at hil; exact hi.seen.1 u2 hil]
  · exact eff_nomem (by simpa using hm)

theorem StepR.comm {lim : Nat} {x y : Nat × Oper} (hi : Indep ops lim x y) {σ σ1 σ2 : St} (h1 : StepR P Φ na ops lim σ x σ1) (h2 : StepR P Φ na ops lim σ1 y σ2) :
    ∃ σ1', StepR P Φ na ops lim σ y σ1' ∧ StepR P Φ na ops lim σ1' x σ2 := by
  obtain ⟨q1, q2, q3⟩ := Oper.apart_spec hi.apart
  obtain ⟨p1, p2, p3⟩ := Oper.apart_spec hi.symm.apart
  -- each: either it does, or it passes
  have form : ∀ {z : Nat × Oper} {s s' : St}, StepR P Φ na ops lim s z s' → (∃ e, eff P Φ na true s.eval (lookBox ops lim s z.2) z.1 z.2 = some e ∧ andO e.pre True ∧ s' = s.apply z.2.dst e ∧
        (∀ t, (∀ d, d ∈ z.2.looksAt ops → t.tmps.getD d .junk = s.tmps.getD d .junk) → ∀ t', Does P Φ na ops lim t z t' → StepR P Φ na ops lim t z t')) ∨
      (s' = s.put z.2.dst (.tup []) ∧ ∀ t, (∀ d, d ∈ z.2.looksAt ops → t.tmps.getD d .junk = s.tmps.getD d .junk) → StepR P Φ na ops lim t z (t.put z.2.dst (.tup []))) := by
    intro z s s' h
    unfold StepR at h
    split at h
    · rename_i hg
      obtain ⟨e, he, hp, hs⟩ := h
      refine .inl ⟨e, he, hp, hs, fun t _ t' hd => ?_⟩
      unfold StepR
      rw [hg]
      exact hd
    · rename_i j want hg
      obtain ⟨d, b, hj, hd, hif⟩ := h
      have hlook : d ∈ z.2.looksAt ops := by
        simp only [Oper.looksAt, List.mem_append, hg, hj]
        exact .inr (by simp)
      by_cases hb : b = true
      · rw [if_pos hb] at hif
        obtain ⟨e, he, hp, hs⟩ := hif
        refine .inl ⟨e, he, hp, hs, fun t ht t' hdo => ?_⟩
        unfold StepR
        rw [hg]
        exact ⟨d, b, hj, by rw [ht d hlook]; exact hd, by rw [if_pos hb]; exact hdo⟩
      · rw [if_neg hb] at hif
        refine .inr ⟨hif, fun t ht => ?_⟩
        unfold StepR
        rw [hg]
        exact ⟨d, b, hj, by rw [ht d hlook]; exact hd, by rw [if_neg hb]⟩
  have lookX : ∀ (v : AV) (s : St), ∀ d, d ∈ x.2.looksAt ops → (s.put y.2.dst v).tmps.getD d .junk = s.tmps.getD d .junk := fun v s d hd => tmp_put fun e => q3 d e hd
  have lookX' : ∀ (e : Eff) (s : St), ∀ d, d ∈ x.2.looksAt ops → (s.apply y.2.dst e).tmps.getD d .junk = s.tmps.getD d .junk := fun v s d hd => tmp_apply fun e => q3 d e hd
  have lookY : ∀ (v : AV) (s : St), ∀ d, d ∈ y.2.looksAt ops → s.tmps.getD d .junk = (s.put x.2.dst v).tmps.getD d .junk := fun v s d hd => (tmp_put fun e => q1 d e hd).symm
  have lookY' : ∀ (e : Eff) (s : St), ∀ d, d ∈ y.2.looksAt ops → s.tmps.getD d .junk = (s.apply x.2.dst e).tmps.getD d .junk := fun v s d hd => (tmp_apply fun e => q1 d e hd).symm
  have putApply : ∀ {z : Nat × Oper} {d : Option Tmp} {s : St}, (∀ t, z.2.dst = some t → d ≠ some t) → ∀ e : Eff, (s.apply z.2.dst e).put d (.tup []) = (s.put d (.tup [])).apply z.2.dst e := by
    intro z d s hne e
    have h2 : St.put { s with boxes := setBoxes s.boxes e.upd } d (.tup []) = { s.put d (.tup []) with boxes := setBoxes (s.put d (.tup [])).boxes e.upd } := by cases d <;> rfl
    simp only [St.apply]
    rw [put_comm _ _ hne, h2]
  have effPut : ∀ {z z' : Nat × Oper} {s : St}, (∀ t, z'.2.dst = some t → t ∉ z.2.looksAt ops) → eff P Φ na true (s.put z'.2.dst (.tup [])).eval (lookBox ops lim (s.put z'.2.dst (.tup [])) z.2) z.1 z.2 = eff P Φ na true s.eval (lookBox ops lim s z.2) z.1 z.2 := by
    intro z z' s hz
    rw [eff_congr (ρ' := s.eval) fun u hu => eval_put fun d hd e' => by subst e'; exact hz d hd (operand_look hu)]
    unfold lookBox
    rw [St.box_put]
  rcases form h1 with ⟨e, he, hp, hs, hk⟩ | ⟨hs, hk⟩
  · rcases form h2 with ⟨f, hf, hfp, hfs, hfk⟩ | ⟨hfs, hfk⟩
    · have hf' : eff P Φ na true σ.eval (lookBox ops lim σ y.2) y.1 y.2 = some f := by rw [← Does.behind hi he σ1 hs]; exact hf
      refine ⟨σ.apply y.2.dst f, hfk σ (by rw [hs]; exact lookY' e σ) _ ⟨f, hf', hfp, rfl⟩, hk _ (lookX' f σ) _ ⟨e, ?_, hp, ?_⟩⟩
      · rw [Does.behind hi.symm hf' _ rfl]; exact he
      · rw [hfs, hs]
        refine apply_comm q2 fun p hpm q hqm e' => ?_
        rcases eff_upd he p hpm with ⟨r1, r2⟩ | ⟨r1 | r1, r2⟩
        · rcases eff_upd hf' q hqm with ⟨t1, t2⟩ | ⟨t1 | t1, t2⟩
          · exact hi.ne r2 t2 (by omega)
          · have := hi.mem.2 t1
            rw [alloc_isMem r2] at this; cases this
          · cases t1
        · have hym := hi.mem.1 r1
          rcases eff_upd hf' q hqm with ⟨t1, t2⟩ | ⟨t1 | t1, t2⟩
          · rw [alloc_isMem t2] at hym; cases hym
          · rw [isStore_isMem t1] at hym; cases hym
          · cases t1
        · cases r1
    · refine ⟨σ.put y.2.dst (.tup []), hfk σ (by rw [hs]; exact lookY' e σ), hk _ (lookX (.tup []) σ) _ ⟨e, ?_, hp, ?_⟩⟩
      · rw [effPut q3]; exact he
      · rw [hfs, hs]
        exact putApply q2 e
  · rcases form h2 with ⟨f, hf, hfp, hfs, hfk⟩ | ⟨hfs, hfk⟩
    · have hf' : eff P Φ na true σ.eval (lookBox ops lim σ y.2) y.1 y.2 = some f := by rw [hs, effPut q1] at hf; exact hf
      refine ⟨σ.apply y.2.dst f, hfk σ (by rw [hs]; exact lookY (.tup []) σ) _ ⟨f, hf', hfp, rfl⟩, ?_⟩
      have := hk (σ.apply y.2.dst f) (lookX' f σ)
      rw [putApply p2 f] at this
      rw [hfs, hs]
      exact this
    · refine ⟨σ.put y.2.dst (.tup []), hfk σ (by rw [hs]; exact lookY (.tup []) σ), ?_⟩
      have := hk (σ.put y.2.dst (.tup [])) (lookX (.tup []) σ)
      rw [put_comm _ _ p2] at this
      rw [hfs, hs]
      exact this

/-- an operation that hangs on none ahead of it may come first -/
theorem Runs.first {lim : Nat} {x : Nat × Oper} {B : List (Nat × Oper)} : ∀ (A : List (Nat × Oper)) (σ σ' : St), (∀ y ∈ A, Indep ops lim y x) → Runs P Φ na ops lim (A ++ x :: B) σ σ' → Runs P Φ na ops lim (x :: (A ++ B)) σ σ'
  | [], σ, σ', _, h => h
  | y :: A, σ, σ', hi, ⟨σ1, h1, h2⟩ => by
    obtain ⟨σ2, h3, h4⟩ := Runs.first A σ1 σ' (fun z hz => hi z (by simp [hz])) h2
    obtain ⟨σ1', h5, h6⟩ := StepR.comm (hi y (by simp)) h1 h3
    exact ⟨σ1', h5, σ2, h6, h4⟩

/-! the drawn order -/

/-- what is still to be done: operations with their box numbers and their places, in the text's order -/
structure Todo (ops : Array Oper) (na lim : Nat) (σ : St) (listed : Array Bool) (L : List ((Nat × Oper) × Nat)) : Prop where
  full : ∀ x ∈ L, ops[x.2]? = some x.1.2
  open_ : ∀ i, i < ops.size → (listed.getD i true = false ↔ ∃ x ∈ L, x.2 = i)
  size : listed.size = ops.size
  sorted : L.Pairwise fun x y => x.2 < y.2 ∧ (allocates x.1.2.op = true → allocates y.1.2.op = true → x.1.1 ≠ y.1.1)
  num : ∀ x ∈ L, (number lim ops.toList)[x.2]? = some x.1
  lim : ∀ x ∈ L, lim ≤ x.1.1
  free : ∀ x ∈ L, allocates x.1.2.op = true → Free na σ x.1.1
  shut : ∀ (i : Nat) (o : Oper), ops[i]? = some o → listed.getD i false = true → ∀ e ∈ o.after, Region.binds .any e = true → listed.getD e.on false = true

theorem number_get : ∀ (l : List Oper) (m i : Nat) (x : Nat × Oper), (number m l)[i]? = some x → l[i]? = some x.2 ∧ m ≤ x.1
  | [], m, i, x, h => by simp [number] at h
  | o :: l, m, 0, x, h => by simp [number] at h; subst h; simp
  | o :: l, m, i + 1, x, h => by
    simp only [number, List.getElem?_cons_succ] at h
    obtain ⟨h1, h2⟩ := number_get l _ i x h
    refine ⟨by simpa using h1, ?_⟩
    split at h2 <;> omega

theorem number_lt : ∀ (l : List Oper) (m : Nat) (i j : Nat) (x y : Nat × Oper), i < j → (number m l)[i]? = some x → (number m l)[j]? = some y → allocates x.2.op = true → x.1 < y.1 := by
  intro l
  induction l with
  | nil => intro m i j x y _ h; simp [number] at h
  | cons o l ih =>
    intro m i j x y hij hx hy ha
    obtain ⟨j, rfl⟩ : ∃ j', j = j' + 1 := ⟨j - 1, by omega⟩
    simp only [number, List.getElem?_cons_succ] at hy
    cases i with
    | zero =>
      simp only [number, List.getElem?_cons_zero, Option.some.injEq] at hx
      subst hx
      have := (number_get l _ j y hy).2
      rw [if_pos ha] at this
      simp only at this ⊢
      omega
    | succ i =>
      simp only [number, List.getElem?_cons_succ] at hx
      exact ih _ i j x y (by omega) hx hy ha

theorem vis_num {lim n : Nat} {o : Oper} (h : n ∈ vis lim ops o) : ∃ i z, i ∈ reach ops 12 o ∧ (number lim ops.toList)[i]? = some z ∧ allocates z.2.op = true ∧ z.1 = n := by
  unfold vis at h
  rw [List.mem_filterMap] at h
  obtain ⟨i, hi, hz⟩ := h
  split at hz
  · rename_i z hz'
    split at hz
    · rename_i ha
      cases hz
      exact ⟨i, z, hi, hz', ha, rfl⟩
    · cases hz
  · cases hz

/-- two operations that make boxes, with one number, are one -/
theorem vis_at {lim : Nat} {o : Oper} {y : Nat × Oper} {j : Nat} (hy : (number lim ops.toList)[j]? = some y) (ha : allocates y.2.op = true) (h : y.1 ∈ vis lim ops o) : j ∈ reach ops 12 o := by
  obtain ⟨i, z, hi, hz, haz, hn⟩ := vis_num h
  by_cases c : i = j
  · rw [← c]; exact hi
  · by_cases d : i < j
    · have := number_lt _ _ _ _ _ _ d hz hy haz; omega
    · have := number_lt _ _ _ _ _ _ (show j < i by omega) hy hz ha; omega

theorem mem_reach {f i : Nat} {o : Oper} (h : i ∈ reach ops (f + 1) o) : ∃ e ∈ o.after, Region.binds .any e = true ∧ ∃ z, ops[e.on]? = some z ∧ (i = e.on ∨ i ∈ reach ops f z) := by
  simp only [reach, List.mem_flatMap] at h
  obtain ⟨e, he, hi⟩ := h
  split at hi
  · rename_i hb
    split at hi
    · rename_i z hz
      split at hi
      · exact ⟨e, by simpa using he, hb, z, hz, by simpa using hi⟩
      · simp at hi
    · simp at hi
  · simp at hi

theorem reach_listed {listed : Array Bool} (hs : ∀ (i : Nat) (o : Oper), ops[i]? = some o → listed.getD i false = true → ∀ e ∈ o.after, Region.binds .any e = true → listed.getD e.on false = true) :
    ∀ (f i : Nat) (o : Oper), (∀ e ∈ o.after, Region.binds .any e = true → listed.getD e.on false = true) → i ∈ reach ops f o → listed.getD i false = true
  | 0, i, o, _, h => by simp [reach] at h
  | f + 1, i, o, ho, h => by
    obtain ⟨e, he, hb, z, hz, hi⟩ := mem_reach h
    rcases hi with rfl | hi
    · exact ho e he hb
    · exact reach_listed hs f i z (hs e.on z hz (ho e he hb)) hi

theorem drawOk_spec (h : drawOk ops = true) {j : Nat} {y : Oper} (hj : ops[j]? = some y) :
    (∀ e ∈ y.after, Region.binds .any e = true → e.on < j) ∧ ∀ i x, i < j → ops[i]? = some x → dependent ops x y = true → ∃ e ∈ y.after, Region.binds .any e = true ∧ (e.on = i ∨ ∃ z, ops[e.on]? = some z ∧ ∃ e' ∈ z.after, Region.binds .any e' = true ∧ e'.on = i) := by
  unfold drawOk at h
  rw [List.all_eq_true] at h
  have hm : ∀ {i : Nat} {x : Oper}, ops[i]? = some x → (x, i) ∈ ops.toList.zipIdx := by
    intro i x hx
    rw [List.mk_mem_zipIdx_iff_getElem?]
    simpa using hx
  have h1 := h (y, j) (hm hj)
  simp only [Bool.and_eq_true] at h1
  refine ⟨fun e he hb => ?_, fun i x hi hx hd => ?_⟩
  · have := Array.all_eq_true_iff_forall_mem.1 h1.1 e he
    simpa [hb] using this
  · have := List.all_eq_true.1 h1.2 (x, i) (hm hx)
    simp only [hi, hd, decide_true, Bool.not_true, Bool.false_or, Bool.or_eq_true] at this
    rcases this with this | this
    · obtain ⟨e, he1, he2⟩ := Array.any_eq_true'.1 this
      simp only [Bool.and_eq_true, decide_eq_true_eq] at he2
      exact ⟨e, he1, he2.1, .inl he2.2⟩
    · obtain ⟨e, he1, he2⟩ := Array.any_eq_true'.1 this
      simp only [Bool.and_eq_true] at he2
      obtain ⟨he2, he3⟩ := he2
      split at he3
      · rename_i z hz
        obtain ⟨e', he4, he5⟩ := Array.any_eq_true'.1 he3
        simp only [Bool.and_eq_true, decide_eq_true_eq] at he5
        exact ⟨e, he1, he2, .inr ⟨z, hz, e', he4, he5.1, he5.2⟩⟩
      · cases he3

theorem reach_lt (hok : drawOk ops = true) : ∀ (f i j : Nat) (o : Oper), ops[j]? = some o → i ∈ reach ops f o → i < j
  | 0, i, j, o, _, h => by simp [reach] at h
  | f + 1, i, j, o, ho, h => by
    obtain ⟨e, he, hb, z, hz, hi⟩ := mem_reach h
    have := (drawOk_spec hok ho).1 e he hb
    rcases hi with rfl | hi
    · exact this
    · exact Nat.lt_trans (reach_lt hok f i e.on z hz hi) this

theorem indep_of {lim : Nat} {x y : Nat × Oper} (h : dependent ops x.2 y.2 = false) (hx : lim ≤ x.1) (hy : lim ≤ y.1) (hne : allocates x.2.op = true → allocates y.2.op = true → x.1 ≠ y.1)
    (hse : (allocates x.2.op = true → x.1 ∉ vis lim ops y.2) ∧ (allocates y.2.op = true → y.1 ∉ vis lim ops x.2)) : Indep ops lim x y := by
  unfold dependent at h
  simp only [Bool.or_eq_false_iff, Bool.not_eq_false', Bool.and_eq_false_iff] at h
  obtain ⟨⟨h1, h2⟩, h3⟩ := h
  exact ⟨h1, ⟨fun e => by rcases h2 with h | h <;> simp_all, fun e => by rcases h3 with h | h <;> simp_all⟩, hx, hy, hne, hse⟩

theorem draw_any (hok : drawOk ops = true) (hΦ : PhiOk P Inv Φ) (hGrow : ∀ w', GrowS (β0 (na + 1)) w0 w' → Inv w') {Q : Exit → Act → World → Prop} {K : St → Prop}
    (hK : ∀ σ β a w, R na β0 w0 σ β a w → K σ → Q .normal a w) (lim : Nat) : ∀ (fuel : Nat) (L : List ((Nat × Oper) × Nat)) (listed : Array Bool) (σ σf : St) (β : Nat → Nat → Prop) (a : Act) (w : World), L.length ≤ fuel →
    Todo ops na lim σ listed L → R na β0 w0 σ β a w → Runs P Φ na ops lim (L.map (·.1)) σ σf → K σf → wpAny P .any ops Q fuel listed a w := by
  have noneReady : ∀ (L : List ((Nat × Oper) × Nat)) (listed : Array Bool) (σ : St), Todo ops na lim σ listed L → Region.ready .any ops listed = [] → L = [] := by
    intro L listed σ ht hr
    cases L with
    | nil => rfl
    | cons x L =>
      exfalso
      have hx := ht.full x (by simp)
      have hlt : x.2 < ops.size := (Array.getElem?_eq_some_iff.1 hx).1
      have hmem : x.2 ∈ Region.ready .any ops listed := by
        unfold Region.ready
        rw [List.mem_filter]
        refine ⟨by simpa using hlt, ?_⟩
        rw [(ht.open_ x.2 hlt).2 ⟨x, by simp, rfl⟩, hx]
        simp only [Bool.not_false, Bool.true_and, Option.map_some, Option.getD_some]
        rw [Array.all_eq_true_iff_forall_mem]
        intro e he
        cases hb : Region.binds .any e with
        | false => rfl
        | true =>
          have hon := (drawOk_spec hok hx).1 e he hb
          cases hl : listed.getD e.on false with
          | true => rfl
          | false =>
            exfalso
            have hon' : e.on < ops.size := by omega
            have hlt' : listed.getD e.on true = false := by
              have : e.on < listed.size := by rw [ht.size]; exact hon'
              simp [Array.getD, this] at hl ⊢
              exact hl
            obtain ⟨z, hz, hze⟩ := (ht.open_ e.on hon').1 hlt'
            rcases List.mem_cons.1 hz with rfl | hz
            · omega
            · have := (List.pairwise_cons.1 ht.sorted).1 z hz
              omega
      rw [hr] at hmem
      simp at hmem
  intro fuel
  induction fuel with
  | zero =>
    intro L listed σ σf β a w hL ht hR hrun hk
    have : L = [] := List.eq_nil_of_length_eq_zero (by omega)
    subst this
    have hs : σf = σ := hrun
    subst hs
    refine ⟨?_, hK _ _ _ _ hR hk⟩
    unfold Region.ready
    rw [List.filter_eq_nil_iff]
    intro i hi
    have hi' : i < ops.size := by simpa using hi
    have := ht.open_ i hi'
    cases hl : listed.getD i true with
    | true => simp
    | false => rw [hl] at this; obtain ⟨x, hx, _⟩ := this.1 rfl; simp at hx
  | succ fuel ih =>
    intro L listed σ σf β a w hL ht hR hrun hk
    refine ⟨fun hr => ?_, fun i hi => ?_⟩
    · have := noneReady L listed σ ht hr
      subst this
      have hs : σf = σ := hrun
      subst hs
      exact hK _ _ _ _ hR hk
    · unfold Region.ready at hi
      rw [List.mem_filter] at hi
      obtain ⟨hi1, hi2⟩ := hi
      have hlt : i < ops.size := by simpa using hi1
      simp only [Bool.and_eq_true, Bool.not_eq_true'] at hi2
      obtain ⟨x, hx, hxi⟩ := (ht.open_ i hlt).1 hi2.1
      subst hxi
      have hxo := ht.full x hx
      obtain ⟨A, B, rfl⟩ := List.append_of_mem hx
      have hsrt := List.pairwise_append.1 ht.sorted
      have hedges : ∀ e ∈ x.1.2.after, Region.binds .any e = true → listed.getD e.on false = true := by
        have h2 := hi2.2
        rw [hxo] at h2
        simp only [Option.map_some, Option.getD_some] at h2
        rw [Array.all_eq_true_iff_forall_mem] at h2
        intro e he hb
        have := h2 e he
        simpa [hb] using this
      have hind : ∀ y ∈ A.map (·.1), Indep ops lim y x.1 := by
        intro y hy
        obtain ⟨z, hz, rfl⟩ := List.mem_map.1 hy
        have hzx := hsrt.2.2 z hz x (by simp)
        have hzo := ht.full z (by simp [hz])
        have hzun : listed.getD z.2 false = false := by
          have hzlt : z.2 < ops.size := (Array.getElem?_eq_some_iff.1 hzo).1
          have h2 := (ht.open_ z.2 hzlt).2 ⟨z, by simp [hz], rfl⟩
          have hs : z.2 < listed.size := by rw [ht.size]; exact hzlt
          simp [Array.getD, hs] at h2 ⊢
          exact h2
        refine indep_of ?_ (ht.lim z (by simp [hz])) (ht.lim x (by simp)) hzx.2 ⟨fun ha hm => ?_, fun ha hm => ?_⟩
        rotate_left
        · have h1 := vis_at (ht.num z (by simp [hz])) ha hm
          have h2 := reach_listed ht.shut 12 z.2 x.1.2 hedges h1
          rw [hzun] at h2
          cases h2
        · have h1 := vis_at (ht.num x (by simp)) ha hm
          have h2 := reach_lt hok 12 x.2 z.2 z.1.2 hzo h1
          have h3 := hzx.1
          omega
        cases hd : dependent ops z.1.2 x.1.2 with
        | false => rfl
        | true =>
          exfalso
          obtain ⟨e, he, hb, hon⟩ := (drawOk_spec hok hxo).2 z.2 z.1.2 hzx.1 hzo hd
          have h1 := hedges e he hb
          have h1 : listed.getD z.2 false = true := by
            rcases hon with hon | ⟨y, hy, e', he', hb', hon⟩
            · rw [← hon]; exact h1
            · rw [← hon]; exact ht.shut e.on y hy h1 e' he' hb'
          have hzlt : z.2 < ops.size := (Array.getElem?_eq_some_iff.1 hzo).1
          have h2 := (ht.open_ z.2 hzlt).2 ⟨z, by simp [hz], rfl⟩
          have hs : z.2 < listed.size := by rw [ht.size]; exact hzlt
          simp [Array.getD, hs] at h1 h2
          rw [h1] at h2
          cases h2
      have hrun' : Runs P Φ na ops lim (x.1 :: ((A ++ B).map (·.1))) σ σf := by
        have : (A ++ x :: B).map (·.1) = A.map (·.1) ++ x.1 :: B.map (·.1) := by simp
        rw [this] at hrun
        have := Runs.first _ _ _ hind hrun
        simpa using this
      obtain ⟨σ1, hstep, hrest⟩ := hrun'
      have hInv : Inv w := hGrow _ hR.grow
      -- what is left to do behind it
      have hnext : ∀ σ', (∀ j, σ.box j = .unborn → j ≠ x.1.1 ∨ allocates x.1.2.op = false → σ'.box j = .unborn) → σ'.boxes.length = σ.boxes.length → Todo ops na lim σ' (listed.setIfInBounds x.2 true) (A ++ B) := by
        intro σ' hun hlen
        have hmem : ∀ y ∈ A ++ B, y ∈ A ++ x :: B := fun y hy => by
          rcases List.mem_append.1 hy with h | h
          · simp [h]
          · simp [h]
        have hne : ∀ y ∈ A ++ B, y.2 ≠ x.2 ∧ (allocates x.1.2.op = true → allocates y.1.2.op = true → y.1.1 ≠ x.1.1) := fun y hy => by
          rcases List.mem_append.1 hy with h | h
          · have := hsrt.2.2 y h x (by simp)
            exact ⟨by omega, fun a b => this.2 b a⟩
          · have := (List.pairwise_cons.1 hsrt.2.1).1 y h
            exact ⟨by omega, fun a b e => this.2 a b e.symm⟩
        refine ⟨fun y hy => ht.full y (hmem y hy), fun j hj => ?_, by simp [ht.size], ?_, fun y hy => ht.num y (hmem y hy), fun y hy => ht.lim y (hmem y hy), fun y hy hay => ?_, fun j o ho hj e he hb => ?_⟩
        rotate_right
        · have hmono : ∀ m, listed.getD m false = true → (listed.setIfInBounds x.2 true).getD m false = true := by
            intro m hm
            have hml : m < listed.size := by
              by_cases c : m < listed.size
              · exact c
              · simp [Array.getD, c] at hm
            simp [Array.getD, hml] at hm
            simp [Array.getD, hml, Array.getElem_setIfInBounds, hm]
          refine hmono _ ?_
          by_cases e' : j = x.2
          · subst e'
            rw [hxo] at ho
            cases ho
            exact hedges e he hb
          · refine ht.shut j o ho ?_ e he hb
            have hjs : j < listed.size := by
              have := (Array.getElem?_eq_some_iff.1 ho).1
              rw [ht.size]; exact this
            have e'' : x.2 ≠ j := fun h => e' h.symm
            simp [Array.getD, hjs, Array.getElem_setIfInBounds, e''] at hj
            simp [Array.getD, hjs, hj]
        · have hjs : j < listed.size := by rw [ht.size]; exact hj
          by_cases e : j = x.2
          · subst e
            constructor
            · intro h; simp [Array.getD, hjs] at h
            · rintro ⟨y, hy, hyx⟩; exact absurd hyx (hne y hy).1
          · have e' : x.2 ≠ j := fun h => e h.symm
            have hg : (listed.setIfInBounds x.2 true).getD j true = listed.getD j true := by
              simp [Array.getD, hjs, Array.getElem_setIfInBounds, e']
            rw [hg, ht.open_ j hj]
            constructor
            · rintro ⟨y, hy, hyj⟩
              rcases List.mem_append.1 hy with h | h
              · exact ⟨y, by simp [h], hyj⟩
              · rcases List.mem_cons.1 h with rfl | h
                · omega
                · exact ⟨y, by simp [h], hyj⟩
            · rintro ⟨y, hy, hyj⟩; exact ⟨y, hmem y hy, hyj⟩
        · rw [List.pairwise_append]
          exact ⟨hsrt.1, (List.pairwise_cons.1 hsrt.2.1).2, fun y hy z hz => hsrt.2.2 y hy z (by simp [hz])⟩
        · have hf := ht.free y (hmem y hy) hay
          refine ⟨hf.na, by rw [hlen]; exact hf.len, hun _ hf.un ?_⟩
          cases hax : allocates x.1.2.op with
          | false => exact .inr rfl
          | true => exact .inl ((hne y hy).2 hax hay)
      have hlenAB : (A ++ B).length ≤ fuel := by simp at hL ⊢; omega
      have take : ∀ {σ'}, Does P Φ na ops lim σ x.1 σ' → Runs P Φ na ops lim ((A ++ B).map (·.1)) σ' σf → Region.wanted x.1.2 (yielded ops a.tmps) = true → wpOp P ops Q x.2 (wpAny P .any ops Q fuel (listed.setIfInBounds x.2 true)) a w := by
        rintro σ' ⟨e, he, hp, rfl⟩ hr hw
        have hb : Sub (lookBox ops lim σ x.1.2) σ.box := by
          unfold lookBox
          split
          · exact Sub.refl _
          · exact Sub.mask _ _
        have hs := eff_sound hR hb hInv hΦ he hp (fun ha => ht.free x (by simp) ha)
        unfold wpOp
        rw [hxo]
        simp only
        rw [if_pos hw]
        refine .inl (hs _ _ fun β' a' w' hR' => ih _ _ _ _ β' a' w' hlenAB (hnext _ (fun j hj hor => ?_) (by rw [St.boxes_apply, setBoxes_length])) hR' hr hk)
        rw [box_apply]
        · exact hj
        · intro p hpm e'
          rcases eff_upd he p hpm with ⟨q1, q2⟩ | ⟨_, q2⟩
          · rcases hor with h | h
            · exact h (by rw [← e', q1])
            · rw [h] at q2; cases q2
          · rcases hb p.1 with h | h
            · exact q2 h
            · rw [e', hj] at h; exact q2 (e' ▸ h)
      have pass : Runs P Φ na ops lim ((A ++ B).map (·.1)) (σ.put x.1.2.dst (.tup [])) σf → Region.wanted x.1.2 (yielded ops a.tmps) = false → wpOp P ops Q x.2 (wpAny P .any ops Q fuel (listed.setIfInBounds x.2 true)) a w := by
        intro hr hw
        unfold wpOp
        rw [hxo]
        simp only
        rw [if_neg (by simp [hw])]
        exact ih _ _ _ _ β _ w hlenAB (hnext _ (fun j hj _ => by rw [St.box_put]; exact hj) (by rw [St.boxes_put])) (hR.put _ V_undef) hr hk
      unfold StepR at hstep
      split at hstep
      · rename_i hg
        exact take hstep hrest (by simp [Region.wanted, hg])
      · rename_i j want hg
        obtain ⟨d, b, hj, hd, hif⟩ := hstep
        have hw : Region.wanted x.1.2 (yielded ops a.tmps) = b := by
          rcases hd with ⟨b', hd, rfl⟩ | ⟨hd, rfl⟩
          · exact wanted_of (ops := ops) hR hg hj hd
          · exact unwanted_of (ops := ops) hR hg hj hd
        by_cases hb : b = true
        · rw [if_pos hb] at hif
          exact take hif hrest (by rw [hw, hb])
        · rw [if_neg hb] at hif
          rw [hif] at hrest
          exact pass hrest (by rw [hw]; simpa using hb)

theorem number_length : ∀ (l : List Oper) (m : Nat), (number m l).length = l.length
  | [], _ => rfl
  | o :: l, m => by simp [number, number_length l]

theorem number_top : ∀ (l : List Oper) (m i : Nat) (x : Nat × Oper), (number m l)[i]? = some x → allocates x.2.op = true → x.1 < m + countAllocs l
  | [], m, i, x, h, _ => by simp [number] at h
  | o :: l, m, 0, x, h, ha => by simp [number] at h; subst h; simp [countAllocs, ha]; omega
  | o :: l, m, i + 1, x, h, ha => by
    simp only [number, List.getElem?_cons_succ] at h
    have := number_top l _ i x h ha
    simp only [countAllocs]
    split at this <;> rename_i hao <;> simp [hao] <;> omega

/-- a region that draws its order -/
theorem evR_draw (hok : drawOk ops = true) (hm : P.follows .mixedOrders = true) (hΦ : PhiOk P Inv Φ) (hGrow : ∀ w', GrowS (β0 (na + 1)) w0 w' → Inv w') {Q : Exit → Act → World → Prop} {K : St → Prop}
    (hK : ∀ σ β a w, R na β0 w0 σ β a w → K σ → Q .normal a w) {lim : Nat} (hR : R na β0 w0 σ β a w) (hrd : Ready na σ lim ops.toList) (h : evR P Φ na true lim ops (number lim ops.toList) σ K) (id : Nat) :
    (Code.region id ops true).wp P Q a w := by
  obtain ⟨σf, hrun, hk⟩ := runs_of_evR _ _ h
  have hR' : R na β0 w0 σ β a { w with drawn := w.drawn + 1 } := hR.grown (w' := w.drew) ((Grow.refl w).drew)
  refine wp_region_any hm (draw_any hok hΦ hGrow hK lim ops.size (number lim ops.toList).zipIdx _ σ σf β a _ (by simp [number_length]) ⟨fun x hx => ?_, fun i hi => ?_, by simp, ?_, fun x hx => by rw [List.mem_zipIdx_iff_getElem?] at hx; exact hx, fun x hx => ?_, fun x hx ha => ?_, fun i o ho hi => ?_⟩ hR' (by simpa using hrun) hk)
  · rw [List.mem_zipIdx_iff_getElem?] at hx
    have := (number_get _ _ _ _ hx).1
    simpa using this
  · constructor
    · intro _
      have hlt : i < (number lim ops.toList).length := by rw [number_length]; simpa using hi
      exact ⟨((number lim ops.toList)[i], i), by rw [List.mem_zipIdx_iff_getElem?]; simp [hlt], rfl⟩
    · intro _
      simp [Array.getD, hi]
  · rw [List.pairwise_iff_getElem]
    intro i j hi hj hij
    simp only [List.getElem_zipIdx]
    refine ⟨by omega, fun ha _ e => ?_⟩
    have := number_lt ops.toList lim i j _ _ hij (List.getElem?_eq_getElem (by simpa using hi)) (List.getElem?_eq_getElem (by simpa using hj)) ha
    omega
  · rw [List.mem_zipIdx_iff_getElem?] at hx
    exact (number_get _ _ _ _ hx).2
  · rw [List.mem_zipIdx_iff_getElem?] at hx
    have h1 := (number_get _ _ _ _ hx).2
    have h2 := number_top _ _ _ _ hx ha
    exact ⟨by have := hrd.1; omega, by have := hrd.2.2; omega, hrd.2.1 _ h1⟩
  · exfalso
    have hlt := (Array.getElem?_eq_some_iff.1 ho).1
    simp [Array.getD, hlt] at hi

end
end Go.AI

namespace Go.AI
open Go Go.RowKit
set_option linter.unusedVariables false
set_option linter.unusedSimpArgs false

section
variable {na : Nat} {β0 : Nat → Nat → Prop} {w0 : World} {σ : St} {β : Nat → Nat → Prop} {a : Act} {w : World} {kb : List (Option Nat)}

/-- the new layout's arenas -/
def viewβ (na : Nat) (β : Nat → Nat → Prop) (kb : List (Option Nat)) : Nat → Nat → Prop := fun i x =>
  if i ≤ na then β i x
  else if i = na + 1 then ∃ j, na < j ∧ some j ∉ kb ∧ β j x
  else ∃ j, kb[i - (na + 2)]? = some (some j) ∧ β j x

def layBs (na : Nat) (bs : List Box) : Nat → Box := fun i => (List.replicate (na + 2) Box.arena ++ bs).getD i .unborn

theorem layBs_low {na : Nat} {bs : List Box} {i : Nat} (h : i < na + 2) : layBs na bs i = .arena := by
  unfold layBs
  simp [List.getD, List.getElem?_append, h, List.getElem?_replicate]

theorem layBs_high {na : Nat} {bs : List Box} {i : Nat} (h : na + 2 ≤ i) : layBs na bs i = bs.getD (i - (na + 2)) .unborn := by
  unfold layBs
  simp only [List.getD, List.getElem?_append, List.length_replicate]
  rw [if_neg (by omega)]

theorem view_inP (hkb : ∀ i, some i ∈ kb → σ.box i ≠ .arena) {p p' : List Nat} (hal : ∀ i ∈ p, σ.box i = .arena) (hp : (∀ i ∈ p, na < i) ∨ ((∀ i ∈ p, 0 < i) ∧ p' = wideA na)) (hp' : na + 1 ∈ p') {bs : List Box} {b : Nat}
    (h : Ctx.inP ⟨σ.box, β, w⟩ p b) : Ctx.inP ⟨layBs na bs, viewβ na β kb, w⟩ p' b := by
  obtain ⟨i, hi, hx⟩ := h
  by_cases hna : na < i
  · refine ⟨na + 1, hp', ?_⟩
    show viewβ na β kb (na + 1) b
    unfold viewβ
    rw [if_neg (by omega), if_pos rfl]
    exact ⟨i, hna, fun hm => hkb i hm (hal i hi), hx⟩
  · rcases hp with hp | ⟨h0, rfl⟩
    · exact absurd (hp i hi) hna
    · have := h0 i hi
      refine ⟨i, by simp [wideA]; exact ⟨i - 1, by omega, by omega⟩, ?_⟩
      show viewβ na β kb i b
      unfold viewβ
      rw [if_pos (by omega)]
      exact hx

mutual
theorem merge_V (hkb : ∀ i, some i ∈ kb → σ.box i ≠ .arena) (bs : List Box) (any : Bool) : ∀ (c c' : AV) (v : Value), V ⟨σ.box, β, w⟩ c v → AV.merge σ.box na any c = some c' → V ⟨layBs na bs, viewβ na β kb, w⟩ c' v
  | .junk, c', v, hV, h => by simp [AV.merge] at h; subst h; simp only [V]
  | .num .., c', v, hV, h => by simp [AV.merge] at h; subst h; simp only [V] at hV ⊢; exact hV
  | .bool _, c', v, hV, h => by simp [AV.merge] at h; subst h; simp only [V] at hV ⊢; exact hV
  | .nilS, c', v, hV, h => by
    simp [AV.merge] at h
    subst h
    simp only [V] at hV ⊢
    subst hV
    refine ⟨fun i hi => ?_, ⟨by simp, by simp⟩, none, 0, by simp, fun _ => .inl ⟨rfl, rfl⟩⟩
    have : i < na + 2 := by split at hi <;> simp [wideA] at hi <;> omega
    show layBs na bs i ≠ _
    rw [layBs_low this]; simp
  | .dig p l, c', v, hV, h => by
    simp only [AV.merge] at h
    split at h
    · rename_i har
      have h0 : ∀ i ∈ p, 0 < i := by simpa [notZero] using (Bool.and_eq_true_iff.1 har).2
      replace har := (Bool.and_eq_true_iff.1 har).1
      simp only [V] at hV
      obtain ⟨_, hok, base, cap, rfl, hd⟩ := hV
      have hal := alive_of (Sub.refl σ.box) β w har
      have key : ∀ p', ((∀ i ∈ p, na < i) ∨ p' = wideA na) → na + 1 ∈ p' → (∀ i ∈ p', i < na + 2) → V ⟨layBs na bs, viewβ na β kb, w⟩ (.dig p' l) (.slice base l.length cap) := by
        intro p' h1 h2 h3
        simp only [V]
        refine ⟨fun i hi => ?_, hok, base, cap, rfl, fun _ => (hd hal).mono fun b hb => ⟨view_inP hkb hal (h1.imp id fun e => ⟨h0, e⟩) h2 hb, rfl⟩⟩
        show layBs na bs i ≠ _
        rw [layBs_low (h3 i hi)]; simp
      split at h
      · cases h
        exact key _ (.inr rfl) (by simp [wideA]) (by simp [wideA])
      · split at h
        · rename_i hall
          cases h
          exact key _ (.inl (by simpa using hall)) (by simp) (by simp)
        · cases h
          exact key _ (.inr rfl) (by simp [wideA]) (by simp [wideA])
    · cases h
  | .vec p n l, c', v, hV, h => by
    simp only [AV.merge] at h
    split at h
    · rename_i har
      have h0 : ∀ i ∈ p, 0 < i := by simpa [notZero] using (Bool.and_eq_true_iff.1 har).2
      replace har := (Bool.and_eq_true_iff.1 har).1
      split at h
      · rename_i l' hl
        cases h
        simp only [V] at hV
        obtain ⟨_, hlen, hn, base, cap, us, rfl, hus, hsz, hd⟩ := hV
        have hal := alive_of (Sub.refl σ.box) β w har
        have hm := merges_V hkb bs any l l' us hus hl
        have hll : l'.length = l.length := by rw [hm.length, hus.length]
        have key : ∀ p', ((∀ i ∈ p, na < i) ∨ p' = wideA na) → na + 1 ∈ p' → (∀ i ∈ p', i < na + 2) → V ⟨layBs na bs, viewβ na β kb, w⟩ (.vec p' n l') (.slice base l.length cap) := by
          intro p' h1 h2 h3
          simp only [V]
          refine ⟨fun i hi => ?_, by omega, hn, base, cap, us, by rw [hll], hm, hsz, fun _ => (hd hal).mono fun b hb => ⟨view_inP hkb hal (h1.imp id fun e => ⟨h0, e⟩) h2 hb, rfl⟩⟩
          show layBs na bs i ≠ _
          rw [layBs_low (h3 i hi)]; simp
        split
        · exact key _ (.inr rfl) (by simp [wideA]) (by simp [wideA])
        · split
          · rename_i hall
            exact key _ (.inl (by simpa using hall)) (by simp) (by simp)
          · exact key _ (.inr rfl) (by simp [wideA]) (by simp [wideA])
      · cases h
    · cases h
  | .agg cs, c', v, hV, h => by
    simp only [AV.merge] at h
    split at h
    · rename_i cs' hcs
      cases h
      simp only [V] at hV ⊢
      obtain ⟨vs, rfl, hvs⟩ := hV
      exact ⟨vs, rfl, merges_V hkb bs any cs cs' vs hvs hcs⟩
    · cases h
  | .tup cs, c', v, hV, h => by
    simp only [AV.merge] at h
    split at h
    · rename_i cs' hcs
      cases h
      simp only [V] at hV ⊢
      obtain ⟨vs, rfl, hvs⟩ := hV
      exact ⟨vs, rfl, merges_V hkb bs any cs cs' vs hvs hcs⟩
    · cases h
  | .fn f cs, c', v, hV, h => by
    simp only [AV.merge] at h
    split at h
    · rename_i cs' hcs
      cases h
      simp only [V] at hV ⊢
      obtain ⟨vs, rfl, hvs⟩ := hV
      exact ⟨vs, rfl, merges_V hkb bs any cs cs' vs hvs hcs⟩
    · cases h
  | .cref p cs, c', v, hV, h => by
    simp only [AV.merge] at h
    split at h
    · rename_i har
      have h0 : ∀ i ∈ p, 0 < i := by simpa [notZero] using (Bool.and_eq_true_iff.1 har).2
      replace har := (Bool.and_eq_true_iff.1 har).1
      split at h
      · rename_i l' hl
        cases h
        simp only [V] at hV ⊢
        obtain ⟨_, vs, hvs, b, off, rfl, hd⟩ := hV
        have hal := alive_of (Sub.refl σ.box) β w har
        refine ⟨fun i hi => ?_, vs, merges_V hkb bs any cs l' vs hvs hl, b, off, rfl, fun _ => ⟨view_inP hkb hal (.inr ⟨h0, rfl⟩) (by simp [wideA]) (hd hal).1, (hd hal).2⟩⟩
        simp [wideA] at hi
        show layBs na bs i ≠ _
        rw [layBs_low (by omega)]; simp
      · cases h
    · cases h
  | .own _, c', v, hV, h => by simp [AV.merge] at h
  | .addr .., c', v, hV, h => by simp [AV.merge] at h
  | .grown .., c', v, hV, h => by simp [AV.merge] at h
  | .boxv _, c', v, hV, h => by simp [AV.merge] at h
  | .hand .., c', v, hV, h => by simp [AV.merge] at h
  | .handv .., c', v, hV, h => by simp [AV.merge] at h
theorem merges_V (hkb : ∀ i, some i ∈ kb → σ.box i ≠ .arena) (bs : List Box) (any : Bool) : ∀ (cs cs' : List AV) (vs : List Value), Vs ⟨σ.box, β, w⟩ cs vs → AV.merges σ.box na any cs = some cs' → Vs ⟨layBs na bs, viewβ na β kb, w⟩ cs' vs
  | [], cs', [], hV, h => by simp [AV.merges] at h; subst h; simp only [Vs]
  | c :: cs, cs', v :: vs, hV, h => by
    simp only [AV.merges] at h
    split at h
    · cases h
    · rename_i c' hc
      split at h
      · cases h
      · rename_i cs'' hcs
        cases h
        simp only [Vs] at hV ⊢
        exact ⟨merge_V hkb bs any c c' v hV.1 hc, merges_V hkb bs any cs cs'' vs hV.2 hcs⟩
  | [], _, _ :: _, hV, _ => by simp only [Vs] at hV
  | _ :: _, _, [], hV, _ => by simp only [Vs] at hV
end

/-- what a box that is kept holds, before and behind -/
def KeptOk (na : Nat) (σ : St) (β : Nat → Nat → Prop) (kb : List (Option Nat)) (bs : List Box) (w : World) (s : Option Nat) (b : Box) : Prop :=
  match s with
  | none => ∃ T, b = .digs T []
  | some i => (∃ T l, σ.box i = .digs T l ∧ b = .digs T l) ∨ ∃ cs cs', σ.box i = .cells cs ∧ b = .cells cs' ∧ ∀ vs, Vs ⟨σ.box, β, w⟩ cs vs → Vs ⟨layBs na bs, viewβ na β kb, w⟩ cs' vs

theorem view_kept (hR : R na β0 w0 σ β a w) (hkb : ∀ i, some i ∈ kb → σ.box i ≠ .arena) (bs : List Box) : ∀ (keep : List (Nat × Keep)) (vals : List AV), view na σ keep = some vals →
    (keptBoxes σ keep).length = (boxesOf vals).length ∧ ∀ (j : Nat) (s : Option Nat) (b : Box), (keptBoxes σ keep)[j]? = some s → (boxesOf vals)[j]? = some b → KeptOk na σ β kb bs w s b
  | [], vals, h => by simp [view] at h; subst h; simp [keptBoxes, srcs, boxesOf]
  | (t, kp) :: keep, vals, h => by
    simp only [view] at h
    split at h
    · cases h
    · rename_i v hv
      split at h
      · cases h
      · rename_i vs hvs
        cases h
        obtain ⟨h1, h2⟩ := view_kept hR hkb bs keep vs hvs
        have cons : ∀ {s b}, KeptOk na σ β kb bs w s b → keptBoxes σ ((t, kp) :: keep) = s :: keptBoxes σ keep → boxesOf (v :: vs) = b :: boxesOf vs →
            (keptBoxes σ ((t, kp) :: keep)).length = (boxesOf (v :: vs)).length ∧ ∀ (j : Nat) (s : Option Nat) (b : Box), (keptBoxes σ ((t, kp) :: keep))[j]? = some s → (boxesOf (v :: vs))[j]? = some b → KeptOk na σ β kb bs w s b := by
          intro s b hk e1 e2
          rw [e1, e2]
          refine ⟨by simp [h1], fun j s' b' hs hb => ?_⟩
          cases j with
          | zero => simp at hs hb; subst hs; subst hb; exact hk
          | succ j => exact h2 j s' b' (by simpa using hs) (by simpa using hb)
        have same : keptBoxes σ ((t, kp) :: keep) = keptBoxes σ keep → boxesOf (v :: vs) = boxesOf vs →
            (keptBoxes σ ((t, kp) :: keep)).length = (boxesOf (v :: vs)).length ∧ ∀ (j : Nat) (s : Option Nat) (b : Box), (keptBoxes σ ((t, kp) :: keep))[j]? = some s → (boxesOf (v :: vs))[j]? = some b → KeptOk na σ β kb bs w s b := by
          intro e1 e2
          rw [e1, e2]
          exact ⟨h1, h2⟩
        have noBox : ∀ {c c' : AV} {any : Bool}, AV.merge σ.box na any c = some c' → boxesOf (c' :: vs) = boxesOf vs := by
          intro c c' any hm
          cases c <;> simp only [AV.merge] at hm <;> first | (cases hm; done) | skip
          all_goals
            (repeat' split at hm) <;> first | (cases hm; rfl) | (cases hm; done)
        cases hc : σ.tmps.getD t .junk with
        | own b =>
          rw [hc] at hv
          simp only [viewAV] at hv
          split at hv
          · rename_i T l hb
            cases hv
            exact cons (s := some b) (b := .digs T l) (.inl ⟨T, l, hb, rfl⟩) (by unfold keptBoxes; simp only [List.map_cons, srcs, hc]) rfl
          · cases hv
        | hand b gc lo len =>
          rw [hc] at hv
          simp only [viewAV] at hv
          split at hv
          · rename_i T l hb
            cases hv
            exact cons (s := some b) (b := .digs T l) (.inl ⟨T, l, hb, rfl⟩) (by unfold keptBoxes; simp only [List.map_cons, srcs, hc]) rfl
          · cases hv
        | addr b off =>
          rw [hc] at hv
          simp only [viewAV] at hv
          split at hv
          · split at hv
            · rename_i cs hb
              split at hv
              · rename_i cs' hcs
                cases hv
                exact cons (s := some b) (b := .cells cs') (.inr ⟨cs, cs', hb, rfl, fun us hus => merges_V hkb bs _ cs cs' us hus hcs⟩) (by unfold keptBoxes; simp only [List.map_cons, srcs, hc]) rfl
              · cases hv
            · cases hv
          · cases hv
        | nilS =>
          rw [hc] at hv
          simp only [viewAV] at hv
          cases kp with
          | grow T =>
            simp only at hv
            cases hv
            exact cons (s := none) (b := .digs T []) ⟨T, rfl⟩ (by unfold keptBoxes; simp only [List.map_cons, srcs, hc]) rfl
          | same => exact same (by unfold keptBoxes; simp only [List.map_cons, srcs, hc]) (noBox hv)
          | any => exact same (by unfold keptBoxes; simp only [List.map_cons, srcs, hc]) (noBox hv)
        | _ =>
          rw [hc] at hv
          simp only [viewAV] at hv
          exact same (by unfold keptBoxes; simp only [List.map_cons, srcs, hc]) (noBox hv)

theorem unview_tmps (hR : R na β0 w0 σ β a w) (hkb : ∀ i, some i ∈ kb → σ.box i ≠ .arena) (bs : List Box) : ∀ (keep : List (Nat × Keep)) (vals : List AV) (n : Nat) (tmps : List AV), view na σ keep = some vals → na + 2 ≤ n →
    Vs ⟨layBs na bs, viewβ na β kb, w⟩ tmps a.tmps.toList → (∀ (j : Nat) (s : Option Nat), (keptBoxes σ keep)[j]? = some s → kb[n + j - (na + 2)]? = some s) → (∀ (j : Nat) (b : Box), (boxesOf vals)[j]? = some b → layBs na bs (n + j) = b) →
    Vs ⟨layBs na bs, viewβ na β kb, w⟩ (unview n keep vals tmps) a.tmps.toList
  | [], vals, n, tmps, h, hn, hV, _, _ => by simp [view] at h; subst h; simpa [unview] using hV
  | (t, kp) :: keep, vals, n, tmps, h, hn, hV, hk, hb => by
    simp only [view] at h
    split at h
    · cases h
    · rename_i v hv
      split at h
      · cases h
      · rename_i vs hvs
        cases h
        have put : ∀ {c : AV}, (∀ u, a.tmps.toList[t]? = some u → V ⟨layBs na bs, viewβ na β kb, w⟩ c u) → Vs ⟨layBs na bs, viewβ na β kb, w⟩ (tmps.set t c) a.tmps.toList := by
          intro c hc
          refine Vs.of (by rw [List.length_set]; exact hV.length) fun i c' u h1 h2 => ?_
          rw [List.getElem?_set] at h1
          split at h1
          · rename_i e
            subst e
            split at h1
            · cases h1; exact hc u h2
            · cases h1
          · exact hV.at h1 h2
        have old : ∀ u, a.tmps.toList[t]? = some u → V ⟨σ.box, β, w⟩ (σ.tmps.getD t .junk) u := by
          intro u hu
          cases hc : σ.tmps[t]? with
          | none => simp [List.getD, hc, V]
          | some c => simp only [List.getD, hc, Option.getD_some]; exact hR.tmps.at hc hu
        have plain : ∀ {any : Bool} {c : AV}, σ.tmps.getD t .junk = c → AV.merge σ.box na any c = some v → keptBoxes σ ((t, kp) :: keep) = keptBoxes σ keep →
            Vs ⟨layBs na bs, viewβ na β kb, w⟩ (unview n ((t, kp) :: keep) (v :: vs) tmps) a.tmps.toList := by
          intro any c hc hm e1
          have hun : unview n ((t, kp) :: keep) (v :: vs) tmps = unview n keep vs (tmps.set t v) ∧ boxesOf (v :: vs) = boxesOf vs := by
            cases c <;> simp only [AV.merge] at hm <;> first | (cases hm; done) | skip
            all_goals
              (repeat' split at hm) <;> first | (cases hm; exact ⟨rfl, rfl⟩) | (cases hm; done)
          rw [hun.1]
          refine unview_tmps hR hkb bs keep vs n _ hvs hn (put fun u hu => ?_) (by rw [← e1]; exact hk) (by rw [← hun.2]; exact hb)
          have := old u hu
          rw [hc] at this
          exact merge_V hkb bs _ c v u this hm
        cases hc : σ.tmps.getD t .junk with
        | own b =>
          rw [hc] at hv
          simp only [viewAV] at hv
          split at hv
          · rename_i T l hbx
            cases hv
            have e1 : keptBoxes σ ((t, kp) :: keep) = some b :: keptBoxes σ keep := by unfold keptBoxes; simp only [List.map_cons, srcs, hc]
            have hkn := hk 0 (some b) (by rw [e1]; rfl)
            have hbn := hb 0 (.digs T l) rfl
            simp only [Nat.add_zero] at hkn hbn
            refine unview_tmps hR hkb bs keep vs (n + 1) _ hvs (by omega) (put fun u hu => ?_) (fun j s hs => ?_) (fun j b' hb' => ?_)
            · have := old u hu
              rw [hc] at this
              simp only [V] at this ⊢
              rw [hbn]
              refine ⟨by simp, this.2.1, fun T' l' hl => ?_⟩
              cases hl
              rcases this.2.2 T l hbx with h | ⟨blk, cap, q1, q2, q3, q4, q5⟩
              · exact .inl h
              · refine .inr ⟨blk, cap, ?_, q2, q3, q4, q5⟩
                show viewβ na β kb n blk
                unfold viewβ
                rw [if_neg (by omega), if_neg (by omega)]
                exact ⟨b, hkn, q1⟩
            · have := hk (j + 1) s (by rw [e1]; simpa using hs)
              rwa [show n + (j + 1) = n + 1 + j by omega] at this
            · have := hb (j + 1) b' (by show (Box.digs T l :: boxesOf vs)[j + 1]? = _; simpa using hb')
              rwa [show n + (j + 1) = n + 1 + j by omega] at this
          · cases hv
        | hand b gc lo len =>
          rw [hc] at hv
          simp only [viewAV] at hv
          split at hv
          · rename_i T l hbx
            cases hv
            have e1 : keptBoxes σ ((t, kp) :: keep) = some b :: keptBoxes σ keep := by unfold keptBoxes; simp only [List.map_cons, srcs, hc]
            have hkn := hk 0 (some b) (by rw [e1]; rfl)
            have hbn := hb 0 (.digs T l) rfl
            simp only [Nat.add_zero] at hkn hbn
            refine unview_tmps hR hkb bs keep vs (n + 1) _ hvs (by omega) (put fun u hu => ?_) (fun j s hs => ?_) (fun j b' hb' => ?_)
            · have := old u hu
              rw [hc] at this
              simp only [V] at this ⊢
              rw [hbn]
              obtain ⟨_, g, cap, q1, q2, q3, q4⟩ := this
              refine ⟨by simp, g, cap, q1, q2, q3, fun T' l' hl => ?_⟩
              cases hl
              obtain ⟨q5, q6, q7⟩ := q4 T l hbx
              refine ⟨?_, q6, q7⟩
              show viewβ na β kb n g
              unfold viewβ
              rw [if_neg (by omega), if_neg (by omega)]
              exact ⟨b, hkn, q5⟩
            · have := hk (j + 1) s (by rw [e1]; simpa using hs)
              rwa [show n + (j + 1) = n + 1 + j by omega] at this
            · have := hb (j + 1) b' (by show (Box.digs T l :: boxesOf vs)[j + 1]? = _; simpa using hb')
              rwa [show n + (j + 1) = n + 1 + j by omega] at this
          · cases hv
        | addr b off =>
          rw [hc] at hv
          simp only [viewAV] at hv
          split at hv
          · rename_i hoff
            split at hv
            · rename_i cs hbx
              split at hv
              · rename_i cs' hcs
                cases hv
                have e1 : keptBoxes σ ((t, kp) :: keep) = some b :: keptBoxes σ keep := by unfold keptBoxes; simp only [List.map_cons, srcs, hc]
                have hkn := hk 0 (some b) (by rw [e1]; rfl)
                have hbn := hb 0 (.cells cs') rfl
                simp only [Nat.add_zero] at hkn hbn
                refine unview_tmps hR hkb bs keep vs (n + 1) _ hvs (by omega) (put fun u hu => ?_) (fun j s hs => ?_) (fun j b' hb' => ?_)
                · have := old u hu
                  rw [hc] at this
                  simp only [V] at this ⊢
                  rw [hbn]
                  refine ⟨by simp, fun _ => ?_⟩
                  obtain ⟨blk, q1, q2⟩ := this.2 (by rw [hbx]; trivial)
                  refine ⟨blk, ?_, by rw [q2, hoff]⟩
                  show viewβ na β kb n blk
                  unfold viewβ
                  rw [if_neg (by omega), if_neg (by omega)]
                  exact ⟨b, hkn, q1⟩
                · have := hk (j + 1) s (by rw [e1]; simpa using hs)
                  rwa [show n + (j + 1) = n + 1 + j by omega] at this
                · have := hb (j + 1) b' (by show (Box.cells cs' :: boxesOf vs)[j + 1]? = _; simpa using hb')
                  rwa [show n + (j + 1) = n + 1 + j by omega] at this
              · cases hv
            · cases hv
          · cases hv
        | nilS =>
          rw [hc] at hv
          simp only [viewAV] at hv
          cases kp with
          | grow T =>
            simp only at hv
            cases hv
            have e1 : keptBoxes σ ((t, .grow T) :: keep) = none :: keptBoxes σ keep := by unfold keptBoxes; simp only [List.map_cons, srcs, hc]
            have hbn := hb 0 (.digs T []) rfl
            simp only [Nat.add_zero] at hbn
            refine unview_tmps hR hkb bs keep vs (n + 1) _ hvs (by omega) (put fun u hu => ?_) (fun j s hs => ?_) (fun j b' hb' => ?_)
            · have := old u hu
              rw [hc] at this
              simp only [V] at this ⊢
              rw [hbn]
              refine ⟨by simp, ⟨_, _, _, this⟩, fun T' l' hl => ?_⟩
              cases hl
              exact .inl ⟨this, rfl⟩
            · have := hk (j + 1) s (by rw [e1]; simpa using hs)
              rwa [show n + (j + 1) = n + 1 + j by omega] at this
            · have := hb (j + 1) b' (by show (Box.digs T [] :: boxesOf vs)[j + 1]? = _; simpa using hb')
              rwa [show n + (j + 1) = n + 1 + j by omega] at this
          | same => exact plain hc hv (by unfold keptBoxes; simp only [List.map_cons, srcs, hc])
          | any => exact plain hc hv (by unfold keptBoxes; simp only [List.map_cons, srcs, hc])
        | _ =>
          rw [hc] at hv
          simp only [viewAV] at hv
          exact plain hc hv (by unfold keptBoxes; simp only [List.map_cons, srcs, hc])

theorem nodup_spec {l : List Nat} (h : nodup l = true) : l.Nodup := by
  have key : ∀ l : List Nat, (dedup l).length ≤ l.length ∧ ((dedup l).length = l.length → l.Nodup) := by
    intro l
    induction l with
    | nil => simp [dedup]
    | cons x l ih =>
      unfold dedup
      split
      · refine ⟨by simp; omega, fun e => ?_⟩
        simp at e; omega
      · rename_i hx
        refine ⟨by simp; exact ih.1, fun e => ?_⟩
        rw [List.nodup_cons]
        exact ⟨by simpa using hx, ih.2 (by simpa using e)⟩
  exact (key l).2 (by unfold nodup at h; simpa using h)

theorem nodup_opt : ∀ {l : List (Option Nat)}, (l.filterMap id).Nodup → ∀ (i j x : Nat), l[i]? = some (some x) → l[j]? = some (some x) → i = j
  | [], _, i, j, x, h, _ => by simp at h
  | s :: l, hn, i, j, x, hi, hj => by
    have hn' : (l.filterMap id).Nodup := by
      cases s with
      | none => simpa using hn
      | some y => simp at hn; exact hn.2
    have hmem : ∀ k, l[k]? = some (some x) → x ∈ l.filterMap id := fun k hk => by
      rw [List.mem_filterMap]
      exact ⟨some x, List.mem_of_getElem? hk, rfl⟩
    cases i with
    | zero =>
      simp at hi
      subst hi
      cases j with
      | zero => rfl
      | succ j =>
        exfalso
        simp at hn hj
        exact absurd (hmem j hj) (by simpa using hn.1)
    | succ i =>
      cases j with
      | zero =>
        exfalso
        simp at hj
        subst hj
        simp at hn hi
        exact absurd (hmem i hi) (by simpa using hn.1)
      | succ j => have := nodup_opt hn' i j x (by simpa using hi) (by simpa using hj); omega

theorem kept_live : ∀ (keep : List (Nat × Keep)) (vals : List AV), view na σ keep = some vals → ∀ i, some i ∈ keptBoxes σ keep → (∃ T l, σ.box i = .digs T l) ∨ ∃ cs, σ.box i = .cells cs
  | [], vals, h, i, hi => by simp [keptBoxes, srcs] at hi
  | (t, kp) :: keep, vals, h, i, hi => by
    simp only [view] at h
    split at h
    · cases h
    · rename_i v hv
      split at h
      · cases h
      · rename_i vs hvs
        have ih := kept_live keep vs hvs i
        unfold keptBoxes at hi ih
        simp only [List.map_cons] at hi
        cases hc : σ.tmps.getD t .junk with
        | own b =>
          rw [hc] at hv
          simp only [viewAV] at hv
          simp only [srcs, hc] at hi
          rcases List.mem_cons.1 hi with h' | h'
          · cases h'
            split at hv
            · rename_i T l hb; exact .inl ⟨T, l, hb⟩
            · cases hv
          · exact ih h'
        | hand b gc lo len =>
          rw [hc] at hv
          simp only [viewAV] at hv
          simp only [srcs, hc] at hi
          rcases List.mem_cons.1 hi with h' | h'
          · cases h'
            split at hv
            · rename_i T l hb; exact .inl ⟨T, l, hb⟩
            · cases hv
          · exact ih h'
        | addr b off =>
          rw [hc] at hv
          simp only [viewAV] at hv
          simp only [srcs, hc] at hi
          rcases List.mem_cons.1 hi with h' | h'
          · cases h'
            split at hv
            · split at hv
              · rename_i cs hb; exact .inr ⟨cs, hb⟩
              · cases hv
            · cases hv
          · exact ih h'
        | nilS =>
          simp only [srcs, hc] at hi
          cases kp with
          | grow T => simp at hi; exact ih hi
          | same => exact ih hi
          | any => exact ih hi
        | _ => simp only [srcs, hc] at hi; exact ih hi

/-- the whole state, laid out anew -/
theorem R.relayout (hR : R na β0 w0 σ β a w) {keep : List (Nat × Keep)} {vals : List AV} (hv : view na σ keep = some vals) (hn : nodup ((keptBoxes σ keep).filterMap id) = true) :
    R na β0 w0 (layOut na σ.tmps.length keep vals) (viewβ na β (keptBoxes σ keep)) a w := by
  have hlive := kept_live keep vals hv
  have hkb : ∀ i, some i ∈ keptBoxes σ keep → σ.box i ≠ .arena := fun i hi => by
    rcases hlive i hi with ⟨T, l, h⟩ | ⟨cs, h⟩ <;> rw [h] <;> simp
  have hnd := nodup_opt (nodup_spec hn)
  obtain ⟨hlen, hkept⟩ := view_kept hR hkb (boxesOf vals) keep vals hv
  have hbox : (layOut na σ.tmps.length keep vals).box = layBs na (boxesOf vals) := rfl
  have hid : ∀ i x, na < i → viewβ na β (keptBoxes σ keep) i x → ∃ j, na < j ∧ β j x ∧ ((i = na + 1 ∧ some j ∉ keptBoxes σ keep) ∨ (na + 2 ≤ i ∧ (keptBoxes σ keep)[i - (na + 2)]? = some (some j))) := by
    intro i x hi hx
    unfold viewβ at hx
    rw [if_neg (by omega)] at hx
    split at hx
    · rename_i e
      obtain ⟨j, h1, h2, h3⟩ := hx
      exact ⟨j, h1, h3, .inl ⟨e, h2⟩⟩
    · obtain ⟨j, h1, h2⟩ := hx
      exact ⟨j, hR.na_lt (hkb j (List.mem_of_getElem? h1)), h2, .inr ⟨by omega, h1⟩⟩
  refine ⟨?_, hR.defers, fun i => ?_, fun i hi => ?_, fun i x hi hx => ?_, fun i x hi hx => ?_, fun i j x hi hj hx hy => ?_, fun i x hi hx => ?_, hR.grow, fun i x hi hx => by
    unfold viewβ at hx
    rw [if_pos hi] at hx
    exact hR.arg0 i x hi hx⟩
  · rw [hbox]
    refine unview_tmps hR hkb (boxesOf vals) keep vals (na + 2) _ hv (Nat.le_refl _) (Vs.of (by rw [List.length_replicate]; exact hR.tmps.length) fun i c v h1 h2 => ?_) (fun j s hs => ?_) (fun j b hb => ?_)
    · rw [List.getElem?_replicate] at h1
      split at h1
      · cases h1; simp only [V]
      · cases h1
    · rwa [show na + 2 + j - (na + 2) = j by omega]
    · rw [layBs_high (by omega), show na + 2 + j - (na + 2) = j by omega]
      simp [List.getD, hb]
  · rw [hbox]
    by_cases hi : i < na + 2
    · rw [layBs_low hi]; trivial
    · rw [layBs_high (by omega)]
      cases hb : (boxesOf vals)[i - (na + 2)]? with
      | none => simp only [List.getD, hb]; trivial
      | some b =>
        have hlt : i - (na + 2) < (keptBoxes σ keep).length := by rw [hlen]; exact (List.getElem?_eq_some_iff.1 hb).1
        have hs : (keptBoxes σ keep)[i - (na + 2)]? = some ((keptBoxes σ keep)[i - (na + 2)]) := List.getElem?_eq_getElem hlt
        have hk := hkept _ _ b hs hb
        have hβ : ∀ x, viewβ na β (keptBoxes σ keep) i x ↔ ∃ j, (keptBoxes σ keep)[i - (na + 2)] = some j ∧ β j x := by
          intro x
          unfold viewβ
          rw [if_neg (by omega), if_neg (by omega), hs]
          constructor
          · rintro ⟨j, h1, h2⟩; exact ⟨j, Option.some.inj h1, h2⟩
          · rintro ⟨j, h1, h2⟩; exact ⟨j, by rw [h1], h2⟩
        simp only [List.getD, hb, Option.getD_some]
        generalize (keptBoxes σ keep)[i - (na + 2)] = s at hk hβ
        cases s with
        | none =>
          obtain ⟨T, rfl⟩ := hk
          have hno : ∀ x, ¬ viewβ na β (keptBoxes σ keep) i x := fun x hx => by
            obtain ⟨j, h, _⟩ := (hβ x).1 hx
            cases h
          exact ⟨fun x y hx _ => absurd hx (hno x), ⟨by simp, by simp⟩, fun x hx => absurd hx (hno x)⟩
        | some j =>
          have hβ' : ∀ x, viewβ na β (keptBoxes σ keep) i x ↔ β j x := fun x => by
            rw [hβ x]
            constructor
            · rintro ⟨j', h1, h2⟩; cases h1; exact h2
            · intro h; exact ⟨j, rfl, h⟩
          have hok := hR.boxes j
          rcases hk with ⟨T, l, h1, rfl⟩ | ⟨cs, cs', h1, rfl, h2⟩
          · rw [h1] at hok
            obtain ⟨q1, q2, q3⟩ := hok
            exact ⟨fun x y hx hy => q1 x y ((hβ' x).1 hx) ((hβ' y).1 hy), q2, fun x hx => q3 x ((hβ' x).1 hx)⟩
          · rw [h1] at hok
            obtain ⟨blk, q1, vs, T, q2, q3⟩ := hok
            exact ⟨blk, fun x => (hβ' x).trans (q1 x), vs, T, q2, h2 _ q3⟩
  · rw [hbox, layBs_low (by omega)]
  · unfold viewβ at hx
    rw [if_pos hi] at hx
    exact hR.old i x hi hx
  · obtain ⟨j, h1, h2, _⟩ := hid i x hi hx
    exact hR.new j x h1 h2
  · obtain ⟨i', h1, h2, h3⟩ := hid i x hi hx
    obtain ⟨j', k1, k2, k3⟩ := hid j x hj hy
    have e := hR.disj i' j' x h1 k1 h2 k2
    subst e
    rcases h3 with ⟨e1, n1⟩ | ⟨e1, n1⟩ <;> rcases k3 with ⟨e2, n2⟩ | ⟨e2, n2⟩
    · omega
    · exact absurd (List.mem_of_getElem? n2) n1
    · exact absurd (List.mem_of_getElem? n1) n2
    · have := hnd _ _ _ n1 n2
      omega
  · rw [hbox] at hi
    have hi' : na + 2 ≤ i := by
      rcases Nat.lt_or_ge i (na + 2) with h | h
      · rw [layBs_low h] at hi; cases hi
      · exact h
    rw [layBs_high hi'] at hi
    obtain ⟨j, h1, h2, h3⟩ := hid i x (by omega) hx
    rcases h3 with ⟨e1, _⟩ | ⟨_, n1⟩
    · omega
    · have hlt : i - (na + 2) < (boxesOf vals).length := by rw [← hlen]; exact (List.getElem?_eq_some_iff.1 n1).1
      have hb : (boxesOf vals)[i - (na + 2)]? = some (boxesOf vals)[i - (na + 2)] := List.getElem?_eq_getElem hlt
      have hk := hkept _ _ _ n1 hb
      simp only [List.getD, hb, Option.getD_some] at hi
      rcases hk with ⟨T, l, _, e⟩ | ⟨cs, cs', _, e, _⟩ <;> rw [e] at hi <;> cases hi

end
end Go.AI

namespace Go.AI
open Go Go.RowKit
set_option linter.unusedVariables false
set_option linter.unusedSimpArgs false

theorem St.len_put (σ : St) (d : Option Tmp) (v : AV) : (σ.put d v).tmps.length = σ.tmps.length := by cases d <;> simp [St.put]
theorem St.len_apply (σ : St) (d : Option Tmp) (e : Eff) : (σ.apply d e).tmps.length = σ.tmps.length := by simp [St.apply, St.len_put]

section
variable {P : Program} {Inv : World → Prop} {na nt : Nat} {β0 : Nat → Nat → Prop} {w0 : World} {Φ : Nat → List AV → Option Spec} {Λ : Nat → Option LoopAnn} {ops : Array Oper}

theorem andO_mono {p : Option Prop} {q q' : Prop} (h : q → q') (k : andO p q) : andO p q' := by
  cases p with
  | none => exact h k
  | some p => exact ⟨k.1, h k.2⟩

theorem shareV_mono {v : AV} {k k' : AV → Prop} (h : ∀ v, k v → k' v) (hs : shareV v k) : shareV v k' := by
  unfold shareV at hs ⊢
  split
  · exact fun l e => h _ (hs l e)
  · exact fun l e => h _ (hs l e)
  · exact fun l e => h _ (hs l e)
  · rename_i n1 n2 n3
    split at hs
    · exact absurd rfl (n1 _ _)
    · exact absurd rfl (n2 _ _)
    · exact absurd rfl (n3 _)
    · exact h _ hs
theorem shareVs_mono : ∀ {l : List AV} {k k' : List AV → Prop}, (∀ v, k v → k' v) → shareVs l k → shareVs l k'
  | [], _, _, h, hs => h _ hs
  | _ :: _, _, _, h, hs => shareV_mono (fun _ h' => shareVs_mono (fun _ h'' => h _ h'') h') hs
theorem shareW_mono {v : AV} {k k' : AV → Prop} (h : ∀ v, k v → k' v) (hs : shareW v k) : shareW v k' := by
  cases v with
  | agg cs => exact shareVs_mono (fun _ h' => h _ h') hs
  | dig p l => exact fun l e => h _ (hs l e)
  | num kd n => exact fun l e => h _ (hs l e)
  | bool b => exact fun l e => h _ (hs l e)
  | _ => exact h _ hs
theorem shareWs_mono : ∀ {l : List AV} {k k' : List AV → Prop}, (∀ v, k v → k' v) → shareWs l k → shareWs l k'
  | [], _, _, h, hs => h _ hs
  | _ :: _, _, _, h, hs => shareW_mono (fun _ h' => shareWs_mono (fun _ h'' => h _ h'') h') hs
theorem share_mono {v : AV} {k k' : AV → Prop} (h : ∀ v, k v → k' v) (hs : share v k) : share v k' := by
  cases v with
  | agg cs => exact shareVs_mono (fun _ h' => h _ h') hs
  | tup cs => exact shareWs_mono (fun _ h' => h _ h') hs
  | _ => exact h _ hs

theorem shareH_inst {v : AV} {k : AV → Prop} (h : shareH v k) : k v := by
  unfold shareH at h
  split at h
  · exact h _ rfl
  · exact shareV_inst h
theorem shareHs_inst : ∀ {l : List AV} {k : List AV → Prop}, shareHs l k → k l
  | [], _, h => h
  | v :: l, k, h => shareHs_inst (l := l) (k := fun l' => k (v :: l')) (shareH_inst (v := v) (k := fun v' => shareHs l fun l' => k (v' :: l')) h)
theorem shareC_inst {l : List AV} {k : List AV → Prop} (h : shareC l k) : k l := by
  unfold shareC at h
  cases hb : l.any isHandv with
  | false => rw [hb] at h; exact h
  | true => rw [hb] at h; exact shareHs_inst h

/-- the frame keeps its size through a region -/
theorem evR_len {dr : Bool} {lim : Nat} {K : St → Prop} : ∀ (L : List (Nat × Oper)) (σ : St), evR P Φ na dr lim ops L σ K → evR P Φ na dr lim ops L σ (fun σ' => σ'.tmps.length = σ.tmps.length ∧ K σ')
  | [], σ, h => ⟨rfl, h⟩
  | x :: L, σ, h => by
    have stepMono : ∀ {s : St} {k k' : St → Prop}, (∀ s', s'.tmps.length = s.tmps.length → k s' → k' s') → stepK P Φ na dr (sees lim ops x.2) s x k → stepK P Φ na dr (sees lim ops x.2) s x k' := by
      intro s k k' hk hs
      unfold stepK at hs ⊢
      split at hs
      · rename_i e he
        refine andO_mono (fun hc => ?_) hs
        cases hcall : isCall x.2.op <;> rw [hcall] at hc
        · cases hbig : isBig x.2.op <;> rw [hbig] at hc
          · exact hk _ (St.len_apply _ _ _) hc
          · exact shareV_mono (fun v h => hk _ (St.len_apply _ _ _) h) hc
        · exact share_mono (fun v h => hk _ (St.len_apply _ _ _) h) hc
      · exact hs.elim
    have go : ∀ {s : St}, s.tmps.length = σ.tmps.length → evR P Φ na dr lim ops L s K → evR P Φ na dr lim ops L s (fun σ' => σ'.tmps.length = σ.tmps.length ∧ K σ') := by
      intro s hs hr
      have := evR_len L s hr
      rw [hs] at this
      exact this
    simp only [evR] at h ⊢
    split at h
    · exact stepMono (fun s' h1 h2 => go h1 h2) h
    · rename_i j want hg
      split at h
      · exact h.elim
      · rename_i d hj
        split at h
        · rename_i b hd
          cases b <;> cases want <;> simp only [cond_true, cond_false] at h ⊢
          · exact stepMono (fun s' h1 h2 => go (by rw [h1, St.len_put]) h2) h
          · exact go (by rw [St.len_put, St.len_put]) h
          · exact go (by rw [St.len_put, St.len_put]) h
          · exact stepMono (fun s' h1 h2 => go (by rw [h1, St.len_put]) h2) h
        · exact go (by rw [St.len_put]) h
        · exact h.elim

/-- a loop, by a number that falls -/
theorem wp_loop_nat {c : Code} {Q : Exit → Act → World → Prop} (J : Nat → Act → World → Prop)
    (h : ∀ n a w, J n a w → c.wp P (Exit.then (fun a' w' => ∃ m, m < n ∧ J m a' w') Q) a w) {n : Nat} {a : Act} {w : World} (h0 : J n a w) : (Code.loop c).wp P Q a w := by
  have least : ∀ {p : Nat → Prop}, (∃ n, p n) → ∃ n, p n ∧ ∀ m, p m → n ≤ m := by
    intro p ⟨n, hn⟩
    induction n using Nat.strongRecOn with
    | _ n ih =>
      by_cases hm : ∃ m, m < n ∧ p m
      · obtain ⟨m, h1, h2⟩ := hm; exact ih m h1 h2
      · exact ⟨n, hn, fun m hp => by
          rcases Nat.lt_or_ge m n with h' | h'
          · exact absurd ⟨m, h', hp⟩ hm
          · exact h'⟩
  classical
  refine wp_loop (fun a w => ∃ n, J n a w) (fun a w => if hx : ∃ n, J n a w then Classical.choose (least hx) else 0) ⟨n, h0⟩ fun a w hI => ?_
  have hx := Classical.choose_spec (least hI)
  refine wp_mono (h _ a w hx.1) fun e a' w' hq => ?_
  cases e with
  | normal =>
    obtain ⟨m, hm, hJ⟩ := hq
    refine ⟨⟨m, hJ⟩, ?_⟩
    have hex : ∃ n, J n a' w' := ⟨m, hJ⟩
    have := (Classical.choose_spec (least hex)).2 m hJ
    rw [dif_pos hex, dif_pos hI]
    omega
  | _ => exact hq

/-- rounds of a loop that is kept to a few slots -/
def iterN (P : Program) (Φ : Nat → List AV → Option Spec) (Λ : Nat → Option LoopAnn) (na nt : Nat) (keep : List (Nat × Keep)) (body : Code) : Nat → List AV → (Exit → List AV → Prop) → Prop
  | 0, _, _ => False
  | n + 1, vals, K => evIter P Φ Λ na nt keep body vals fun e vals' => match e with
    | .normal => iterN P Φ Λ na nt keep body n vals' K
    | e => K e vals'

/-- the loop's own contract -/
def LoopOk (P : Program) (Φ : Nat → List AV → Option Spec) (Λ : Nat → Option LoopAnn) (na nt : Nat) (keep : List (Nat × Keep)) (body : Code) (ls : List AV → Option LR) : Prop :=
  ∀ vals r, ls vals = some r → ∀ K, evLR r K → ∃ n, iterN P Φ Λ na nt keep body n vals K

def LoopsOk (P : Program) (Φ : Nat → List AV → Option Spec) (Λ : Nat → Option LoopAnn) (na nt : Nat) : Code → Prop
  | .seq a b => LoopsOk P Φ Λ na nt a ∧ LoopsOk P Φ Λ na nt b
  | .cond _ a b => LoopsOk P Φ Λ na nt a ∧ LoopsOk P Φ Λ na nt b
  | .block _ a => LoopsOk P Φ Λ na nt a
  | .loop a => LoopsOk P Φ Λ na nt a ∧ ∀ keep ls, Λ (firstRegion a) = some (.spec keep ls) → LoopOk P Φ Λ na nt keep a ls
  | _ => True

/-- a related state, for some arenas -/
def Rel (na nt : Nat) (β0 : Nat → Nat → Prop) (w0 : World) (σ : St) (a : Act) (w : World) : Prop := σ.tmps.length = nt ∧ ∃ β, R na β0 w0 σ β a w

theorem freeze_digs {bx : Nat → Box} : ∀ (p : List Nat), (∀ i ∈ p, ∃ T l, bx i = .digs T l) → freeze bx false p = some (p.map fun i => (i, Box.dead))
  | [], _ => rfl
  | i :: p, h => by
    obtain ⟨T, l, hi⟩ := h i (by simp)
    unfold freeze
    rw [hi]
    simp only [freeze_digs p (fun j hj => h j (by simp [hj])), List.map_cons]
    rfl
theorem isDigs_iff {b : Box} : isDigs b = true ↔ ∃ T l, b = .digs T l := by
  cases b <;> simp [isDigs]

/-- all slices of one's own become parts of one arena -/
theorem Rel.thaw {σ : St} {a : Act} {w : World} (h : Rel na nt β0 w0 σ a w) : Rel na nt β0 w0 (AI.thaw σ) a w := by
  obtain ⟨hnt, β, hR⟩ := h
  have hna : na < σ.boxes.length := hR.len (i := na) (by rw [hR.args na (Nat.le_refl _)]; simp)
  -- a new arena, with nothing in it
  let σ0 : St := { σ with boxes := σ.boxes ++ [.unborn] }
  have hbox0 : ∀ i, σ0.box i = σ.box i := by
    intro i
    show List.getD _ _ _ = List.getD _ _ _
    simp only [σ0, List.getD, List.getElem?_append]
    split
    · rfl
    · rename_i hi
      rw [List.getElem?_eq_none (by omega : σ.boxes.length ≤ i)]
      cases hc : i - σ.boxes.length with
      | zero => rfl
      | succ k => rfl
  have hbx0 : σ0.box = σ.box := funext hbox0
  have hR0 : R na β0 w0 σ0 β a w := by
    refine ⟨by rw [hbx0]; exact hR.tmps, hR.defers, fun i => by rw [hbx0]; exact hR.boxes i, fun i hi => by rw [hbx0]; exact hR.args i hi, hR.old, hR.new, hR.disj, fun i x hi => by rw [hbx0] at hi; exact hR.unborn i x hi, hR.grow, hR.arg0⟩
  have hun : σ0.box σ.boxes.length = .unborn := by
    rw [hbox0]
    show List.getD _ _ _ = _
    simp [List.getD]
  have hlen0 : σ.boxes.length < σ0.boxes.length := by simp [σ0]
  have hR1 := hR0.newId (w' := w) hna hlen0 hun .arena (fun _ => False) (Grow.refl w) (by simp) (fun x hx => hx.elim) trivial
  have hset : σ0.boxes.set σ.boxes.length .arena = σ.boxes ++ [.arena] := by simp [σ0]
  rw [hset] at hR1
  have hbox1 : ∀ i, St.box { σ0 with boxes := σ.boxes ++ [.arena] } i = if i = σ.boxes.length then .arena else σ.box i := by
    intro i
    rw [← hset, St.box_set _ _ _ _ hlen0, hbx0]
  have hids : ∀ i ∈ digsIds σ, i < σ.boxes.length ∧ ∃ T l, σ.box i = .digs T l := fun i hi => by
    unfold digsIds at hi
    rw [List.mem_filter] at hi
    exact ⟨by simpa using hi.1, isDigs_iff.1 hi.2⟩
  have hnd : (digsIds σ).Nodup := List.Pairwise.filter _ List.nodup_range
  obtain ⟨β', h1, h2, h3, h4, h5⟩ := freeze_ok (bx := σ.box) (n := σ.boxes.length) false hna (digsIds σ) _ _ _ hnd (fun hm => absurd (hids _ hm).1 (by omega)) (freeze_digs _ fun i hi => (hids i hi).2) (fun i hi => .inr (by
    rw [hbox1, if_neg (by have := (hids i hi).1; omega)])) hR1 (by rw [hbox1, if_pos rfl])
  refine ⟨by simp [AI.thaw, hnt], β', ?_⟩
  have hT : Vs ⟨St.box { σ0 with boxes := setBoxes (σ.boxes ++ [.arena]) ((digsIds σ).map fun i => (i, Box.dead)) }, β', w⟩ (σ.tmps.map (thawV σ.box σ.boxes.length)) a.tmps.toList := by
    refine Vs.of (by rw [List.length_map]; exact hR.tmps.length) fun i c v hc hv => ?_
    rw [List.getElem?_map] at hc
    obtain ⟨c0, hc0, rfl⟩ := Option.map_eq_some_iff.1 hc
    unfold thawV
    split
    · rename_i x hx
      cases ha : AV.asArg σ.box σ.boxes.length 8 c0 with
      | none => simp only [Option.getD_none, V]
      | some c' =>
        simp only [Option.getD_some]
        refine asArg_V hR (Sub.refl _) (C' := ⟨St.box { σ0 with boxes := setBoxes (σ.boxes ++ [.arena]) ((digsIds σ).map fun i => (i, Box.dead)) }, β', w⟩) rfl h2 8 c0 c' v (hR.tmps.at hc0 hv) ha fun j hj y hy => ?_
        -- the value refers to one box alone, and that is one of digits
        have hj' : ∃ T l, σ.box j = .digs T l := by
          unfold handOf at hx
          split at hx
          · simp [AV.ids] at hj
            subst hj
            split at hx
            · rename_i T l e; exact ⟨T, l, e⟩
            · cases hx
          · simp [AV.ids] at hj
            subst hj
            split at hx
            · rename_i T l e; exact ⟨T, l, e⟩
            · cases hx
          · cases hx
        have hjl := hR.len (i := j) (by obtain ⟨T, l, e⟩ := hj'; rw [e]; simp)
        have hmem : j ∈ digsIds σ := by
          unfold digsIds
          rw [List.mem_filter]
          exact ⟨by simpa using hjl, isDigs_iff.2 hj'⟩
        rcases h5 j hmem with ⟨q1, _⟩ | ⟨T, l, _, q2⟩
        · obtain ⟨T, l, e⟩ := hj'
          rw [e] at q1; cases q1
        · exact q2 y ((setβ_other _ _ (by omega) y).2 hy)
    · exact h1.tmps.at hc0 hv
  exact ⟨hT, h1.defers, h1.boxes, h1.args, h1.old, h1.new, h1.disj, h1.unborn, h1.grow, h1.arg0⟩

theorem evLR_mono {k k' : Exit → List AV → Prop} (h : ∀ e v, k e v → k' e v) : ∀ r : LR, evLR r k → evLR r k'
  | .done e v, hr => h e v hr
  | .test b x y, hr => by
    simp only [evLR] at hr ⊢
    cases b
    · exact evLR_mono h y hr
    · exact evLR_mono h x hr
  | .need p x, hr => ⟨hr.1, evLR_mono h x hr.2⟩

theorem unview_length : ∀ (keep : List (Nat × Keep)) (vals : List AV) (n : Nat) (tmps : List AV), (unview n keep vals tmps).length = tmps.length
  | [], vals, n, tmps => by simp [unview]
  | x :: keep, [], n, tmps => by simp [unview]
  | x :: keep, v :: vals, n, tmps => by
    cases v <;> simp [unview, unview_length keep]

theorem evC_sound (hm : P.follows .mixedOrders = true) (hΦ : PhiOk P Inv Φ) (hGrow : ∀ w', GrowS (β0 (na + 1)) w0 w' → Inv w') : ∀ (c : Code), LoopsOk P Φ Λ na nt c → ∀ (σ : St) (k : Exit → St → Prop) (a : Act) (w : World) (Q : Exit → Act → World → Prop),
    Rel na nt β0 w0 σ a w → evC P Φ Λ na c σ k → (∀ e σ' a' w', k e σ' → Rel na nt β0 w0 σ' a' w' → Q e a' w') → c.wp P Q a w := by
  intro c
  induction c with
  | skip => intro _ σ k a w Q hR h hk; exact wp_skip (hk _ _ _ _ h hR)
  | region id ops draw =>
    intro _ σ0 k a w Q hR0 h hk
    obtain ⟨σ, hσ, hR⟩ : ∃ σ, cond (thawAt Λ id) (thaw σ0) σ0 = σ ∧ Rel na nt β0 w0 σ a w := by
      refine ⟨_, rfl, ?_⟩
      cases thawAt Λ id with
      | false => exact hR0
      | true => exact hR0.thaw
    obtain ⟨hnt, β, hR⟩ := hR
    let σ' : St := { σ with boxes := σ.boxes ++ List.replicate (countAllocs ops.toList) .unborn }
    have hbox : ∀ i, σ'.box i = σ.box i := by
      intro i
      show List.getD _ _ _ = List.getD _ _ _
      simp only [σ', List.getD, List.getElem?_append]
      split
      · rfl
      · rename_i hi
        rw [List.getElem?_eq_none (by omega : σ.boxes.length ≤ i)]
        rw [List.getElem?_replicate]
        split <;> rfl
    have hbx : σ'.box = σ.box := funext hbox
    have hR' : R na β0 w0 σ' β a w := by
      refine ⟨by rw [hbx]; exact hR.tmps, hR.defers, fun i => by rw [hbx]; exact hR.boxes i, fun i hi => by rw [hbx]; exact hR.args i hi, hR.old, hR.new, hR.disj, fun i x hi => by rw [hbx] at hi; exact hR.unborn i x hi, hR.grow, hR.arg0⟩
    have hna : na < σ.boxes.length := by
      rcases Nat.lt_or_ge na σ.boxes.length with h' | h'
      · exact h'
      · have := hR.args na (Nat.le_refl _)
        simp [St.box, List.getD, List.getElem?_eq_none h'] at this
    have hrd : Ready na σ' σ.boxes.length ops.toList := by
      refine ⟨hna, fun i hi => ?_, by simp [σ']⟩
      rw [hbox]
      simp [St.box, List.getD, List.getElem?_eq_none hi]
    cases draw with
    | false =>
      have h' : evR P Φ na false σ.boxes.length ops (number σ.boxes.length ops.toList) σ' (fun σ => k .normal σ) := by
        simp only [evC, hσ] at h
        exact h
      refine wp_region_list (evR_seq hΦ hGrow (K := fun s => s.tmps.length = σ'.tmps.length ∧ k .normal s) (fun s β a w hRs hks => hk .normal s a w hks.2 ⟨by rw [hks.1]; exact hnt, β, hRs⟩) σ.boxes.length ops.toList _ σ' β a w hR' hrd (evR_len _ _ h'))
    | true =>
      have h' : cond (drawOk ops) (evR P Φ na true σ.boxes.length ops (number σ.boxes.length ops.toList) σ' (fun σ => k .normal σ)) False := by
        simp only [evC, hσ] at h
        exact h
      cases hok : drawOk ops with
      | false => rw [hok] at h'; exact h'.elim
      | true =>
        rw [hok] at h'
        exact evR_draw hok hm hΦ hGrow (K := fun s => s.tmps.length = σ'.tmps.length ∧ k .normal s) (fun s β a w hRs hks => hk .normal s a w hks.2 ⟨by rw [hks.1]; exact hnt, β, hRs⟩) hR' hrd (evR_len _ _ h') id
  | seq x y ihx ihy =>
    intro hl σ k a w Q hR h hk
    refine wp_seq (ihx hl.1 σ _ a w _ hR h fun e σ' a' w' he hR' => ?_)
    cases e with
    | normal => exact ihy hl.2 σ' k a' w' Q hR' he hk
    | _ => exact hk _ _ _ _ he hR'
  | cond c x y ihx ihy =>
    intro hl σ k a w Q hR h hk
    have hR0 := hR
    obtain ⟨hnt, β, hR⟩ := hR
    have hV := hR.V_eval c
    simp only [evC] at h
    split at h
    · rename_i t ht
      rw [ht] at hV
      refine wp_cond hV.bool_inv ?_
      split at h
      · rename_i d
        have hd : σ.tmps.getD d .junk = .bool t := ht
        have hp := put_self hd
        cases t <;> simp only [cond_true, cond_false] at h <;> rw [hp] at h
        · exact ihy hl.2 σ k a w Q hR0 h hk
        · exact ihx hl.1 σ k a w Q hR0 h hk
      · cases t <;> simp only [cond_true, cond_false] at h
        · exact ihy hl.2 σ k a w Q hR0 h hk
        · exact ihx hl.1 σ k a w Q hR0 h hk
    · exact h.elim
  | block id x ih =>
    intro hl σ k a w Q hR h hk
    refine wp_block (ih hl σ _ a w _ hR h fun e σ' a' w' he hR' => ?_)
    cases e with
    | exit i =>
      simp only [exitK] at he
      simp only [Exit.inBlock]
      split at he
      · rename_i e; rw [if_pos e]; exact hk _ _ _ _ he hR'
      · rename_i e; rw [if_neg e]; exact hk _ _ _ _ he hR'
    | _ => exact hk _ _ _ _ he hR'
  | loop x ih =>
    intro hl σ k a w Q hR h hk
    simp only [evC] at h
    split at h
    · rename_i n _
      refine wp_loop_nat (fun n a w => ∃ σ, Rel na nt β0 w0 σ a w ∧ unrollN (evC P Φ Λ na x) n σ k) (fun n a w ⟨σ, hR, hu⟩ => ?_) (n := n) ⟨σ, hR, h⟩
      cases n with
      | zero => exact hu.elim
      | succ n =>
        refine ih hl.1 σ _ a w _ hR hu fun e σ' a' w' he hR' => ?_
        cases e with
        | normal => exact ⟨n, by omega, σ', hR', he⟩
        | _ => exact hk _ _ _ _ he hR'
    · rename_i keep ls hΛ
      -- the state at the loop's head, kept
      have relay : ∀ {σ : St} {a : Act} {w : World} {k : List AV → Prop}, Rel na nt β0 w0 σ a w → withView na keep σ k → ∃ vals, k vals ∧ Rel na nt β0 w0 (layOut na nt keep vals) a w := by
        intro σ a w k ⟨hnt, β, hR⟩ hv
        unfold withView at hv
        split at hv
        · rename_i vals hvals
          cases hn : nodup ((keptBoxes σ keep).filterMap id) with
          | false => rw [hn] at hv; exact hv.elim
          | true =>
            rw [hn] at hv
            have := hR.relayout hvals hn
            rw [hnt] at this
            exact ⟨vals, hv, by simp [layOut, unview_length], _, this⟩
        · exact hv.elim
      have hnt := hR.1
      obtain ⟨vals, hv, hR1⟩ := relay hR h
      replace hv := shareC_inst hv
      split at hv
      · rename_i r hr
        rw [hnt] at hv
        obtain ⟨n, hit⟩ := hl.2 keep ls hΛ vals r hr _ hv
        refine wp_loop_nat (fun n a w => ∃ vals, Rel na nt β0 w0 (layOut na nt keep vals) a w ∧ iterN P Φ Λ na nt keep x n vals (fun e vals' => shareC vals' fun vals' => k e (layOut na nt keep vals'))) (fun n a w ⟨vals, hR, hu⟩ => ?_) (n := n) ⟨vals, hR1, hit⟩
        cases n with
        | zero => exact hu.elim
        | succ n =>
          refine ih hl.1 _ _ a w _ hR hu fun e σ' a' w' he hR' => ?_
          obtain ⟨vals', hv', hR2⟩ := relay hR' he
          cases e with
          | normal => exact ⟨n, by omega, vals', hR2, hv'⟩
          | _ => exact hk _ _ _ _ (shareC_inst hv') hR2
      · exact hv.elim
    · exact h.elim
  | exit id => intro _ σ k a w Q hR h hk; exact wp_exit (hk _ _ _ _ h hR)
  | ret => intro _ σ k a w Q hR h hk; exact wp_ret (hk _ _ _ _ h hR)
  | rangeFunc => intro _ σ k a w Q hR h hk; exact h.elim
  | scope => intro _ σ k a w Q hR h hk; exact h.elim
  | label => intro _ σ k a w Q hR h hk; exact h.elim
  | goto => intro _ σ k a w Q hR h hk; exact h.elim
  | refuse => intro _ σ k a w Q hR h hk; exact h.elim

end
end Go.AI

namespace Go.AI
open Go Go.RowKit
set_option linter.unusedVariables false
set_option linter.unusedSimpArgs false

/-! what is known of the numbers in a value -/
mutual
def AV.ok : AV → Prop
  | .num k n => k.min ≤ n ∧ n ≤ k.max
  | .dig _ l => okDig l
  | .vec _ _ l => l.length ≤ 2 ^ 45 ∧ AV.oks l
  | .agg cs => AV.oks cs
  | .tup cs => AV.oks cs
  | .cref _ cs => AV.oks cs
  | .fn _ cs => AV.oks cs
  | .handv _ L _ lo len => okDig L ∧ lo + len ≤ L.length
  | _ => True
def AV.oks : List AV → Prop
  | [] => True
  | c :: cs => AV.ok c ∧ AV.oks cs
end

mutual
theorem V.ok {C : Ctx} : ∀ (c : AV) (v : Value), V C c v → c.ok
  | .num k n, v, h => by simp only [V] at h; simp only [AV.ok]; exact h.2
  | .dig p l, v, h => by simp only [V] at h; simp only [AV.ok]; exact h.2.1
  | .vec p n l, v, h => by
    simp only [V] at h
    simp only [AV.ok]
    obtain ⟨_, h1, _, _, _, us, _, h2, _⟩ := h
    exact ⟨h1, Vs.ok l us h2⟩
  | .agg cs, v, h => by simp only [V] at h; simp only [AV.ok]; obtain ⟨vs, _, h⟩ := h; exact Vs.ok cs vs h
  | .tup cs, v, h => by simp only [V] at h; simp only [AV.ok]; obtain ⟨vs, _, h⟩ := h; exact Vs.ok cs vs h
  | .cref p cs, v, h => by simp only [V] at h; simp only [AV.ok]; obtain ⟨_, vs, h, _⟩ := h; exact Vs.ok cs vs h
  | .fn f cs, v, h => by simp only [V] at h; simp only [AV.ok]; obtain ⟨vs, _, h⟩ := h; exact Vs.ok cs vs h
  | .junk, _, _ => by simp only [AV.ok]
  | .bool _, _, _ => by simp only [AV.ok]
  | .nilS, _, _ => by simp only [AV.ok]
  | .addr .., _, _ => by simp only [AV.ok]
  | .own _, _, _ => by simp only [AV.ok]
  | .grown .., _, _ => by simp only [AV.ok]
  | .boxv _, _, _ => by simp only [AV.ok]
  | .hand .., _, _ => by simp only [AV.ok]
  | .handv _ L _ lo len, v, h => by simp only [V] at h; simp only [AV.ok]; exact h
theorem Vs.ok {C : Ctx} : ∀ (cs : List AV) (vs : List Value), Vs C cs vs → AV.oks cs
  | [], [], _ => by simp only [AV.oks]
  | c :: cs, v :: vs, h => by simp only [Vs] at h; simp only [AV.oks]; exact ⟨V.ok c v h.1, Vs.ok cs vs h.2⟩
  | [], _ :: _, h => by simp only [Vs] at h
  | _ :: _, [], h => by simp only [Vs] at h
end

section
variable {P : Program} {Inv : World → Prop} {na nt : Nat} {β0 : Nat → Nat → Prop} {w0 : World} {σ : St} {β : Nat → Nat → Prop} {a : Act} {w : World} {Φ : Nat → List AV → Option Spec} {Λ : Nat → Option LoopAnn}

/-- what the caller knows of the arenas of a result -/
theorem res_inP (hR : R na β0 w0 σ β a w) (hS : ∀ x, ¬ β0 (na + 1) x) {alias : Bool} {p p' : List Nat} (hp : (alias = true ∧ p.contains 0 = false ∧ p' = List.range (na + 1)) ∨ ((∀ i ∈ p, na < i) ∧ p' = [0])) {b : Nat}
    (h : Ctx.inP ⟨σ.box, β, w⟩ p b) : Ctx.inP ⟨fun _ => .arena, resβ w0 w β0, w⟩ p' b := by
  obtain ⟨i, hi, hx⟩ := h
  have fresh : na < i → resβ w0 w β0 0 b := fun hna => by
    unfold resβ
    rw [if_pos rfl]
    have h1 := hR.new i b hna hx
    exact ⟨h1.1.resolve_right (hS b), h1.2⟩
  rcases hp with ⟨_, h0, rfl⟩ | ⟨hall, rfl⟩
  · by_cases hna : na < i
    · exact ⟨0, by simp, fresh hna⟩
    · refine ⟨i, by simp; omega, ?_⟩
      show resβ w0 w β0 i b
      unfold resβ
      have : i ≠ 0 := fun e => by
        subst e
        have : p.contains 0 = true := by simpa using hi
        rw [h0] at this; cases this
      rw [if_neg this]
      exact hR.arg0 i b (by omega) hx
  · exact ⟨0, by simp, fresh (hall i hi)⟩

mutual
theorem asRes_V (hR : R na β0 w0 σ β a w) (hS : ∀ x, ¬ β0 (na + 1) x) (alias : Bool) : ∀ (c c' : AV) (v : Value), V ⟨σ.box, β, w⟩ c v → AV.asRes σ.box na alias c = some c' → V ⟨fun _ => .arena, resβ w0 w β0, w⟩ c' v
  | .junk, c', v, hV, h => by simp [AV.asRes] at h
  | .num .., c', v, hV, h => by simp [AV.asRes] at h; subst h; simp only [V] at hV ⊢; exact hV
  | .bool _, c', v, hV, h => by simp [AV.asRes] at h; subst h; simp only [V] at hV ⊢; exact hV
  | .nilS, c', v, hV, h => by
    simp [AV.asRes] at h
    subst h
    simp only [V] at hV ⊢
    subst hV
    exact ⟨fun i _ => by simp, ⟨by simp, by simp⟩, none, 0, by simp, fun _ => .inl ⟨rfl, rfl⟩⟩
  | .dig p l, c', v, hV, h => by
    simp only [AV.asRes] at h
    split at h
    · rename_i har
      simp only [V] at hV
      obtain ⟨_, hok, base, cap, rfl, hd⟩ := hV
      have hal := alive_of (Sub.refl σ.box) β w har
      have key : ∀ p', ((alias = true ∧ p.contains 0 = false ∧ p' = List.range (na + 1)) ∨ ((∀ i ∈ p, na < i) ∧ p' = [0])) → V ⟨fun _ => .arena, resβ w0 w β0, w⟩ (.dig p' l) (.slice base l.length cap) := by
        intro p' hp
        simp only [V]
        exact ⟨fun i _ => by simp, hok, base, cap, rfl, fun _ => (hd hal).mono fun b hb => ⟨res_inP hR hS hp hb, rfl⟩⟩
      split at h
      · rename_i hal'
        split at h
        · cases h
        · rename_i h0
          cases h
          exact key _ (.inl ⟨hal', by simpa using h0, rfl⟩)
      · split at h
        · rename_i hall
          cases h
          exact key _ (.inr ⟨by simpa using hall, rfl⟩)
        · cases h
    · cases h
  | .own b, c', v, hV, h => by
    simp only [AV.asRes] at h
    split at h
    · rename_i T l hb
      cases h
      have hbok := hR.boxes b
      rw [hb] at hbok
      have hna := hR.na_lt (i := b) (by rw [hb]; simp)
      simp only [V] at hV ⊢
      rcases hV.2.2 T l hb with ⟨rfl, rfl⟩ | ⟨blk, cap, g1, rfl, g2, g3, cs, g4, g5⟩
      · exact ⟨fun i _ => by simp, ⟨by simp, by simp⟩, none, 0, by simp, fun _ => .inl ⟨rfl, rfl⟩⟩
      · obtain ⟨cs', hc', h4, h5⟩ := hbok.2.2 blk g1
        refine ⟨fun i _ => by simp, hbok.2.1, _, _, rfl, fun _ => .inr ⟨blk, 0, cs', T, (0, 0), rfl, ⟨0, by split <;> simp, ?_⟩, hc', g2, fun j hj => ?_, fun j x hj => by rw [Nat.zero_add]; exact h5 j x hj⟩⟩
        rotate_left
        · have g4' : w.heap[blk]? = some (.cells cs T (0, 0)) := g4
          have hc'' : w.heap[blk]? = some (.cells cs' T (0, 0)) := hc'
          rw [hc''] at g4'
          cases g4'
          omega
        show resβ w0 w β0 0 blk
        unfold resβ
        rw [if_pos rfl]
        have h1 := hR.new b blk hna g1
        exact ⟨h1.1.resolve_right (hS blk), h1.2⟩
    · cases h
  | .agg cs, c', v, hV, h => by
    simp only [AV.asRes] at h
    split at h
    · rename_i cs' hcs
      cases h
      simp only [V] at hV ⊢
      obtain ⟨vs, rfl, hvs⟩ := hV
      exact ⟨vs, rfl, asRess_V hR hS alias cs cs' vs hvs hcs⟩
    · cases h
  | .vec p n l, c', v, hV, h => by
    simp only [AV.asRes] at h
    split at h
    · rename_i har
      split at h
      · rename_i l' hl
        simp only [V] at hV
        obtain ⟨_, hlen, hn, base, cap, us, rfl, hus, hsz, hd⟩ := hV
        have hal := alive_of (Sub.refl σ.box) β w har
        have hm := asRess_V hR hS alias l l' us hus hl
        have hll : l'.length = l.length := by rw [hm.length, hus.length]
        have key : ∀ p', ((alias = true ∧ p.contains 0 = false ∧ p' = List.range (na + 1)) ∨ ((∀ i ∈ p, na < i) ∧ p' = [0])) → V ⟨fun _ => .arena, resβ w0 w β0, w⟩ (.vec p' n l') (.slice base l.length cap) := by
          intro p' hp
          simp only [V]
          exact ⟨fun i _ => by simp, by omega, hn, base, cap, us, by rw [hll], hm, hsz, fun _ => (hd hal).mono fun b hb => ⟨res_inP hR hS hp hb, rfl⟩⟩
        split at h
        · rename_i hal'
          split at h
          · cases h
          · rename_i h0
            cases h
            exact key _ (.inl ⟨hal', by simpa using h0, rfl⟩)
        · split at h
          · rename_i hall
            cases h
            exact key _ (.inr ⟨by simpa using hall, rfl⟩)
          · cases h
      · cases h
    · cases h
  | .tup _, c', v, hV, h => by simp [AV.asRes] at h
  | .addr .., c', v, hV, h => by simp [AV.asRes] at h
  | .cref .., c', v, hV, h => by simp [AV.asRes] at h
  | .fn .., c', v, hV, h => by simp [AV.asRes] at h
  | .grown .., c', v, hV, h => by simp [AV.asRes] at h
  | .boxv _, c', v, hV, h => by simp [AV.asRes] at h
  | .hand .., c', v, hV, h => by simp [AV.asRes] at h
  | .handv .., c', v, hV, h => by simp [AV.asRes] at h
theorem asRess_V (hR : R na β0 w0 σ β a w) (hS : ∀ x, ¬ β0 (na + 1) x) (alias : Bool) : ∀ (cs cs' : List AV) (vs : List Value), Vs ⟨σ.box, β, w⟩ cs vs → AV.asRess σ.box na alias cs = some cs' → Vs ⟨fun _ => .arena, resβ w0 w β0, w⟩ cs' vs
  | [], cs', [], hV, h => by simp [AV.asRess] at h; subst h; simp only [Vs]
  | c :: cs, cs', v :: vs, hV, h => by
    simp only [AV.asRess] at h
    split at h
    · cases h
    · rename_i c' hc
      split at h
      · cases h
      · rename_i cs'' hcs
        cases h
        simp only [Vs] at hV ⊢
        exact ⟨asRes_V hR hS alias c c' v hV.1 hc, asRess_V hR hS alias cs cs'' vs hV.2 hcs⟩
  | [], _, _ :: _, hV, _ => by simp only [Vs] at hV
  | _ :: _, _, [], hV, _ => by simp only [Vs] at hV
end

theorem getTmp_V (hR : R na β0 w0 σ β a w) (t : Nat) : V ⟨σ.box, β, w⟩ (σ.tmps.getD t .junk) (a.tmps.getD t undef) := hR.V_eval (.tmp t)

def resG (tmps : Array Value) : ResultVar → Sem Value
  | .tmp t => pure (tmps.getD t undef)
  | .cell c t => do loadVar t (← asAddr (tmps.getD c undef))

theorem results_eq (fn : Func) (tmps : Array Value) : results fn tmps = (fn.results.mapM (resG tmps)) >>= fun vs => pure (if h : vs.size = 1 then vs[0] else .tuple vs) := by
  unfold results
  congr 1

theorem run_results (hR : R na β0 w0 σ β a w) : ∀ (rs : List ResultVar) (avs : List AV), resultsAV P σ rs = some avs →
    ∃ vs : List Value, (rs.mapM (resG a.tmps)).run P w = .ok vs w ∧ Vs ⟨σ.box, β, w⟩ avs vs
  | [], avs, h => by
    simp [resultsAV] at h
    subst h
    exact ⟨[], by simp, by simp only [Vs]⟩
  | r :: rs, avs, h => by
    simp only [resultsAV] at h
    split at h
    · cases h
    · rename_i v hv
      split at h
      · cases h
      · rename_i avs' havs
        cases h
        obtain ⟨vs, h1, h2⟩ := run_results hR rs avs' havs
        have key : ∃ u, (resG a.tmps r).run P w = .ok u w ∧ V ⟨σ.box, β, w⟩ v u := by
          cases r with
          | tmp t =>
            simp only [resultAV, Option.some.injEq] at hv
            subst hv
            exact ⟨_, rfl, getTmp_V hR t⟩
          | cell c t =>
            simp only [resultAV] at hv
            have hV := getTmp_V hR c
            split at hv
            · rename_i b off hb
              rw [hb] at hV
              simp only [V] at hV
              split at hv
              · rename_i cs hcs
                obtain ⟨blk, hβ, hx⟩ := hV.2 (by rw [hcs]; trivial)
                have hok := hR.boxes b
                rw [hcs] at hok
                obtain ⟨blk', q1, us, T, q2, q3⟩ := hok
                have : blk = blk' := (q1 blk).1 hβ
                subst this
                obtain ⟨u, hu1, hu2⟩ := run_loadVar (P := P) hv (q3.drop off) (w := w) (b := blk) (off := off) (fun j y hj => by
                  rw [cell?_of_block q2]
                  rw [List.getElem?_drop] at hj
                  simpa using hj)
                refine ⟨u, ?_, hu2⟩
                simp only [resG, hx, asAddr, Sem.run_bind, Sem.run_pure, Result.andThen_ok, hu1]
              · cases hv
            · cases hv
        obtain ⟨u, hu1, hu2⟩ := key
        refine ⟨u :: vs, ?_, by simp only [Vs]; exact ⟨hu2, h2⟩⟩
        rw [List.mapM_cons]
        simp only [Sem.run_bind, hu1, Result.andThen_ok, h1, Sem.run_pure]

theorem finish_sound (hR : R na β0 w0 σ β a w) (hS : ∀ x, ¬ β0 (na + 1) x) {fn : Func} {alias : Bool} {Q : AV → Prop} (h : finishK P fn na alias Q σ) :
    ∃ v r, (results fn a.tmps).run P w = .ok v w ∧ Q r ∧ V ⟨fun _ => .arena, resβ w0 w β0, w⟩ r v := by
  unfold finishK at h
  split at h
  · exact h.elim
  · rename_i avs havs
    obtain ⟨vs, h1, h2⟩ := run_results (P := P) hR _ _ havs
    have hrun : (fn.results.mapM (resG a.tmps)).run P w = .ok vs.toArray w := by
      rw [Array.mapM_eq_mapM_toList, Sem.run_map, h1]
      rfl
    have hres : (results fn a.tmps).run P w = .ok (if h : vs.toArray.size = 1 then vs.toArray[0] else .tuple vs.toArray) w := by
      rw [results_eq]
      simp only [Sem.run_bind, hrun, Result.andThen_ok, Sem.run_pure]
    split at h
    · exact h.elim
    · rename_i r hr
      have hv := asRess_V hR hS alias _ _ _ h2 hr
      obtain ⟨u, rfl, hu⟩ := hv.one
      exact ⟨u, r, by rw [hres]; rfl, h, hu⟩
    · rename_i rs hne hrs
      have hv := asRess_V hR hS alias _ _ _ h2 hrs
      have hlen := hv.length
      refine ⟨.tuple vs.toArray, .tup rs, ?_, h, by simp only [V]; exact ⟨vs, rfl, hv⟩⟩
      rw [hres, dif_neg]
      intro h1
      simp at h1
      rw [h1] at hlen
      obtain ⟨r, hr⟩ := List.length_eq_one_iff.1 hlen
      exact hne r hr

/-- the frame at a function's beginning -/
theorem R_begin {fn : Func} {args : List AV} {cargs : List Value} (hlt : ∀ i x, β i x → x < w.heap.size) (hV : Vs ⟨argBs args.length, β, w⟩ args cargs) :
    R args.length (fun i x => i ≤ args.length ∧ β i x) w ⟨args ++ List.replicate (fn.ntmps - args.length) .junk, List.replicate (args.length + 1) .arena⟩ (fun i x => i ≤ args.length ∧ β i x) { tmps := cargs.toArray ++ Array.replicate (fn.ntmps - cargs.toArray.size) undef, defers := [] } w := by
  let σ : St := ⟨args ++ List.replicate (fn.ntmps - args.length) .junk, List.replicate (args.length + 1) .arena⟩
  have hbox : ∀ i, σ.box i = argBs args.length i := by
    intro i
    show List.getD _ _ _ = _
    simp only [σ, List.getD, List.getElem?_replicate, argBs]
    by_cases hi : i ≤ args.length
    · rw [if_pos (by omega), if_pos hi]; rfl
    · rw [if_neg (by omega), if_neg hi]; rfl
  have hbx : σ.box = argBs args.length := funext hbox
  let β1 : Nat → Nat → Prop := fun i x => i ≤ args.length ∧ β i x
  have hle : Le ⟨argBs args.length, β, w⟩ ⟨argBs args.length, β1, w⟩ := by
    have hb : ∀ i, argBs args.length i ≠ .unborn → i ≤ args.length := fun i hi => by
      unfold argBs at hi
      rcases Nat.lt_or_ge args.length i with h' | h'
      · rw [if_neg (by omega)] at hi; exact absurd rfl hi
      · exact h'
    refine ⟨fun _ h => h, fun i hi ha => ⟨ha, fun x hx => ⟨⟨hb i hi, hx⟩, rfl⟩⟩, fun i T l hi hd => ⟨l, hd, rfl, fun x hx => ⟨⟨hb i hi, hx⟩, fun cs hc => ⟨cs, hc, rfl⟩⟩⟩, fun i cs hi hc => ⟨cs, hc, fun x hx => ⟨hb i hi, hx⟩⟩⟩
  have hlen := hV.length
  refine ⟨?_, rfl, fun i => ?_, fun i hi => ?_, fun i x _ hx => ⟨hlt i x hx.2, fun h => absurd h.1 (by omega)⟩, fun i x hi hx => absurd hx.1 (by omega), fun i j x hi _ hx _ => absurd hx.1 (by omega), fun i x hi hx => ?_, GrowS.refl fun x hx => absurd hx.1 (by omega), fun i x _ hx => hx⟩
  · show Vs ⟨σ.box, β1, w⟩ _ _
    rw [hbx]
    have h1 := Vs.mono hle _ _ hV
    have h2 : Vs ⟨argBs args.length, β1, w⟩ (List.replicate (fn.ntmps - args.length) AV.junk) (List.replicate (fn.ntmps - args.length) undef) := Vs.of (by simp) fun i c v hc _ => by
      rw [List.getElem?_replicate] at hc
      split at hc
      · cases hc; simp only [V]
      · cases hc
    have h3 := h1.append h2
    show Vs _ (args ++ List.replicate (fn.ntmps - args.length) .junk) (cargs.toArray ++ Array.replicate (fn.ntmps - cargs.toArray.size) undef).toList
    rw [hlen] at h3 ⊢
    simpa using h3
  · show BoxOk _ i (σ.box i)
    rw [hbox]
    unfold argBs
    split <;> trivial
  · show σ.box i = _
    rw [hbox]
    unfold argBs
    rw [if_pos hi]
  · have hi : σ.box i = .unborn := hi
    rw [hbox] at hi
    unfold argBs at hi
    split at hi
    · cases hi
    · exact absurd hx.1 (by omega)

theorem contract_of {f : Nat} {fn : Func} {c : Code} {args : List AV} {res : AV} {alias : Bool} (hm : P.follows .mixedOrders = true) (hΦ : PhiOk P Inv Φ) (hGrow : ∀ w w', Inv w → Grow w w' → Inv w')
    (hfn : P.funcs[f]? = some fn) (hb : fn.body = some c) (hname : (fn.name == "runtime.NumGoroutine") = false) (hnt : args.length + (fn.ntmps - args.length) = nt) (hl : LoopsOk P Φ Λ args.length nt c)
    (h : AV.oks args → evF P Φ Λ alias fn args (fun r => r = res)) : Contract P Inv f args res := by
  refine ⟨fun as w => ?_, fun w cargs β hInv hlt hV _ => ?_⟩
  · simp only [callFunc, Sem.run_bind, run_program, Result.andThen_ok, hfn, hname, hb]
    rfl
  · have hok := Vs.ok _ _ hV
    have hE := h hok
    unfold evF at hE
    rw [hb] at hE
    simp only at hE
    have hR := R_begin (fn := fn) hlt hV
    have hS : ∀ x, ¬ (args.length + 1 ≤ args.length ∧ β (args.length + 1) x) := fun x hx => absurd hx.1 (by omega)
    refine calls_of_wp hfn hb ?_
    refine evC_sound (Λ := Λ) (nt := nt) (na := args.length) (w0 := w) hm hΦ (fun w' hg => hGrow w w' hInv (hg.toGrow hS)) c hl _ _ _ w _ ⟨by simp; omega, _, hR⟩ hE fun e σ' a' w' hk hR' => ?_
    obtain ⟨_, β', hR'⟩ := hR'
    have fin : finishK P fn args.length alias (fun r => r = res) σ' → bodyPost P fn (fun e w' => ∃ v, e = .returned v ∧ After args res w w' β cargs v) .normal a' w' := by
      intro hf
      obtain ⟨v, r, q1, rfl, q2⟩ := finish_sound (P := P) hR' hS hf
      have hle : Le ⟨fun _ => .arena, resβ w w' (fun i x => i ≤ args.length ∧ β i x), w'⟩ ⟨fun _ => .arena, resβ w w' β, w'⟩ := by
        refine ⟨fun _ h => h, fun i hi ha => ⟨ha, fun x hx => ⟨?_, rfl⟩⟩, fun i T l hi hd => (by cases hd), fun i cs hi hc => (by cases hc)⟩
        have hx : resβ w w' (fun i x => i ≤ args.length ∧ β i x) i x := hx
        show resβ w w' β i x
        unfold resβ at hx ⊢
        split
        · rename_i h0; rw [if_pos h0] at hx; exact hx
        · rename_i h0; rw [if_neg h0] at hx; exact hx.2
      exact ⟨hR'.defers, v, q1, v, rfl, After.of (hR'.grow.toGrow hS) (V.mono hle _ _ q2)⟩
    cases e with
    | normal => exact fin hk
    | ret => exact fin hk
    | _ => exact hk.elim

/-- a function that answers with a slice of its own -/
theorem contract_own {f : Nat} {fn : Func} {c : Code} {args : List AV} {res : AV} (hm : P.follows .mixedOrders = true) (hΦ : PhiOk P Inv Φ) (hGrow : ∀ w w', Inv w → Grow w w' → Inv w')
    (hfn : P.funcs[f]? = some fn) (hb : fn.body = some c) (hname : (fn.name == "runtime.NumGoroutine") = false) (hnt : args.length + (fn.ntmps - args.length) = nt) (hl : LoopsOk P Φ Λ args.length nt c)
    (h : AV.oks args → evO P Φ Λ fn args (fun r => r = res)) : Contract P Inv f args res := by
  refine ⟨fun as w => ?_, fun w cargs β hInv hlt hV _ => ?_⟩
  · simp only [callFunc, Sem.run_bind, run_program, Result.andThen_ok, hfn, hname, hb]
    rfl
  · have hok := Vs.ok _ _ hV
    have hE := h hok
    unfold evO at hE
    rw [hb] at hE
    simp only at hE
    have hR := R_begin (fn := fn) hlt hV
    have hS : ∀ x, ¬ (args.length + 1 ≤ args.length ∧ β (args.length + 1) x) := fun x hx => absurd hx.1 (by omega)
    refine calls_of_wp hfn hb ?_
    refine evC_sound (Λ := Λ) (nt := nt) (na := args.length) (w0 := w) hm hΦ (fun w' hg => hGrow w w' hInv (hg.toGrow hS)) c hl _ _ _ w _ ⟨by simp; omega, _, hR⟩ hE fun e σ' a' w' hk hR' => ?_
    obtain ⟨_, β', hR'⟩ := hR'
    have fin : finishO P fn (fun r => r = res) σ' → bodyPost P fn (fun e w' => ∃ v, e = .returned v ∧ After args res w w' β cargs v) .normal a' w' := by
      intro hf
      unfold finishO at hf
      split at hf
      · rename_i b havs
        split at hf
        · rename_i T l hbx
          subst hf
          obtain ⟨vs, h1, h2⟩ := run_results (P := P) hR' _ _ havs
          have hrun : (fn.results.mapM (resG a'.tmps)).run P w' = .ok vs.toArray w' := by
            rw [Array.mapM_eq_mapM_toList, Sem.run_map, h1]
            rfl
          obtain ⟨u, rfl, hu⟩ := h2.one
          have hres : (results fn a'.tmps).run P w' = .ok u w' := by
            rw [results_eq]
            simp only [Sem.run_bind, hrun, Result.andThen_ok, Sem.run_pure]
            rfl
          have hbok := hR'.boxes b
          rw [hbx] at hbok
          have hna := hR'.na_lt (i := b) (by rw [hbx]; simp)
          refine ⟨hR'.defers, u, hres, u, rfl, ?_⟩
          unfold After
          refine ⟨hR'.grow.toGrow hS, hbok.2.1, ?_⟩
          simp only [V] at hu
          rcases hu.2.2 T l hbx with h | ⟨g, cap, q1, q2, q3, q4, cs, q5, q6⟩
          · exact .inl h
          · obtain ⟨cs', r1, r2, r3⟩ := hbok.2.2 g q1
            have r1 : w'.heap[g]? = some (.cells cs' T (0, 0)) := r1
            have q5 : w'.heap[g]? = some (.cells cs T (0, 0)) := q5
            rw [r1] at q5
            cases q5
            have hnew := hR'.new b g hna q1
            exact .inr ⟨g, cs, hnew.1.resolve_right (hS g), hnew.2, r1, by rw [q2, q6], by omega, by omega, r3⟩
        · exact hf.elim
      · exact hf.elim
    cases e with
    | normal => exact fin hk
    | ret => exact fin hk
    | _ => exact hk.elim

/-- a function whose first argument is a slice that may be written -/
theorem contract_hand {f : Nat} {fn : Func} {c : Code} {T : TypeId} {L : List Nat} {lo len : Nat} {args : List AV} {res : AV} (hm : P.follows .mixedOrders = true) (hΦ : PhiOk P Inv Φ)
    (hGrow : ∀ (g : Nat) (w w' : World), Inv w → HandAt w T L g → GrowS (· = g) w w' → Inv w')
    (hfn : P.funcs[f]? = some fn) (hb : fn.body = some c) (hname : (fn.name == "runtime.NumGoroutine") = false) (hnt : args.length + 1 + (fn.ntmps - (args.length + 1)) = nt) (hl : LoopsOk P Φ Λ (args.length + 1) nt c)
    (hkind : kindOf res = 2) (h : okDig L → lo + len ≤ L.length → AV.oks args → ∀ g cap, evH P Φ Λ fn T L g cap lo len args (fun r => r = res)) : Contract P Inv f (.handv T L none lo len :: args) res := by
  refine ⟨fun as w => ?_, fun w cargs β hInv hlt hV hasks => ?_⟩
  · simp only [callFunc, Sem.run_bind, run_program, Result.andThen_ok, hfn, hname, hb]
    rfl
  · unfold Asks at hasks
    rw [hkind] at hasks
    obtain ⟨g, cap, tl, rfl, hlc, hokL, hll, hat, ⟨cs0, hc0, hcap⟩, hne⟩ := hasks
    simp only [Vs, List.length_cons] at hV
    have hok := Vs.ok _ _ hV.2
    have hE := h hokL hll hok g cap
    unfold evH at hE
    rw [hb] at hE
    simp only at hE
    let σ : St := ⟨.hand (args.length + 2) (some (g, cap)) lo len :: args ++ List.replicate (fn.ntmps - (args.length + 1)) .junk, List.replicate (args.length + 2) .arena ++ [.digs T L]⟩
    have hbox : ∀ i, σ.box i = if i ≤ args.length + 1 then .arena else if i = args.length + 2 then .digs T L else .unborn := by
      intro i
      show List.getD _ _ _ = _
      simp only [σ, List.getD, List.getElem?_append, List.length_replicate, List.getElem?_replicate]
      by_cases hi : i ≤ args.length + 1
      · rw [if_pos (by omega), if_pos (by omega), if_pos hi]; rfl
      · rw [if_neg (by omega), if_neg hi]
        by_cases hi2 : i = args.length + 2
        · subst hi2; simp
        · rw [if_neg hi2, List.getElem?_eq_none (by simp; omega)]; rfl
    let β1 : Nat → Nat → Prop := fun i x => if i = args.length + 2 then x = g else i ≤ args.length + 1 ∧ β i x
    have hβ1 : β1 (args.length + 1 + 1) = (· = g) := funext fun x => if_pos rfl
    have hβlow : ∀ i x, i ≤ args.length + 1 → β1 i x → β i x := fun i x hi hx => by
      have hx : (if i = args.length + 2 then x = g else i ≤ args.length + 1 ∧ β i x) := hx
      rw [if_neg (by omega)] at hx
      exact hx.2
    have hβhigh : ∀ i x, args.length + 1 < i → β1 i x → i = args.length + 2 ∧ x = g := fun i x hi hx => by
      have hx : (if i = args.length + 2 then x = g else i ≤ args.length + 1 ∧ β i x) := hx
      split at hx
      · rename_i e; exact ⟨e, hx⟩
      · exact absurd hx.1 (by omega)
    have hle : Le ⟨argBs (args.length + 1), β, w⟩ ⟨σ.box, β1, w⟩ := by
      have hb : ∀ i, argBs (args.length + 1) i ≠ .unborn → i ≤ args.length + 1 := fun i hi => by
        unfold argBs at hi
        rcases Nat.lt_or_ge (args.length + 1) i with h' | h'
        · rw [if_neg (by omega)] at hi; exact absurd rfl hi
        · exact h'
      have up : ∀ i x, i ≤ args.length + 1 → β i x → β1 i x := fun i x hi hx => by
        show (if i = args.length + 2 then x = g else i ≤ args.length + 1 ∧ β i x)
        rw [if_neg (by omega)]
        exact ⟨hi, hx⟩
      refine ⟨fun i hi => ?_, fun i hi ha => ⟨?_, fun x hx => ⟨up i x (hb i hi) hx, rfl⟩⟩, fun i T' l hi hd => ?_, fun i cs hi hc => ?_⟩
      · show σ.box i ≠ _
        rw [hbox, if_pos (hb i hi)]; simp
      · show argBs _ i = _
        unfold argBs; rw [if_pos (hb i hi)]
      · have hd : σ.box i = .digs T' l := hd
        rw [hbox, if_pos (hb i hi)] at hd; cases hd
      · have hc : σ.box i = .cells cs := hc
        rw [hbox, if_pos (hb i hi)] at hc; cases hc
    have hlen := hV.2.length
    have hgl : g < w.heap.size := (Array.getElem?_eq_some_iff.1 hc0).1
    let a0 : Act := { tmps := ((.slice (some ⟨g, lo, none⟩) len cap) :: tl).toArray ++ Array.replicate (fn.ntmps - ((Value.slice (some ⟨g, lo, none⟩) len cap) :: tl).toArray.size) undef, defers := [] }
    have hR : R (args.length + 1) β1 w σ β1 a0 w := by
      refine ⟨?_, rfl, fun i => ?_, fun i hi => ?_, fun i x hi hx => ?_, fun i x hi hx => ?_, fun i j x hi hj hx hy => ?_, fun i x hi hx => ?_, GrowS.refl fun x hx => ?_, fun i x _ hx => hx⟩
      · have h1 := Vs.mono hle _ _ hV.2
        have h2 : Vs ⟨σ.box, β1, w⟩ (List.replicate (fn.ntmps - (args.length + 1)) AV.junk) (List.replicate (fn.ntmps - (args.length + 1)) undef) := Vs.of (by simp) fun i c v hc _ => by
          rw [List.getElem?_replicate] at hc
          split at hc
          · cases hc; simp only [V]
          · cases hc
        have h3 := h1.append h2
        have h4 : V ⟨σ.box, β1, w⟩ (.hand (args.length + 2) (some (g, cap)) lo len) (.slice (some ⟨g, lo, none⟩) len cap) := by
          simp only [V]
          refine ⟨by rw [hbox, if_neg (by omega), if_pos rfl]; simp, g, cap, .inr rfl, rfl, hlc, fun T' L' hl => ?_⟩
          rw [hbox, if_neg (by omega), if_pos rfl] at hl
          cases hl
          refine ⟨?_, hll, cs0, hc0, hcap⟩
          show (if args.length + 2 = args.length + 2 then g = g else _)
          rw [if_pos rfl]
        show Vs _ (.hand (args.length + 2) (some (g, cap)) lo len :: args ++ List.replicate (fn.ntmps - (args.length + 1)) .junk) (((Value.slice (some ⟨g, lo, none⟩) len cap) :: tl).toArray ++ Array.replicate (fn.ntmps - ((Value.slice (some ⟨g, lo, none⟩) len cap) :: tl).toArray.size) undef).toList
        rw [hlen] at h3
        rw [hlen]
        simp only [List.cons_append, Array.toList_append, Array.toList_replicate, List.size_toArray, List.length_cons]
        simp only [Vs]
        exact ⟨hlen ▸ h4, by simpa using h3⟩
      · rw [hbox]
        by_cases hi : i ≤ args.length + 1
        · rw [if_pos hi]; trivial
        · rw [if_neg hi]
          by_cases hi2 : i = args.length + 2
          · rw [if_pos hi2]
            have q : ∀ x, β1 i x → x = g := fun x hx => (hβhigh i x (by omega) hx).2
            refine ⟨fun x y hx hy => by rw [q x hx, q y hy], hokL, fun x hx => ?_⟩
            rw [q x hx]
            exact hat
          · rw [if_neg hi2]; trivial
      · rw [hbox, if_pos hi]
      · have h1 := hβlow i x hi hx
        refine ⟨hlt i x h1, ?_⟩
        rw [hβ1]
        exact hne i x h1
      · have h1 := hβhigh i x hi hx
        rw [hβ1]
        exact ⟨.inr h1.2, by rw [h1.2]; exact hgl⟩
      · rw [(hβhigh i x hi hx).1, (hβhigh j x hj hy).1]
      · rw [hbox] at hi
        split at hi
        · cases hi
        · split at hi
          · cases hi
          · rename_i h1 h2
            exact absurd (hβhigh i x (by omega) hx).1 h2
      · rw [hβ1] at hx
        rw [show x = g from hx]
        exact ⟨cs0, T, hc0⟩
    refine calls_of_wp hfn hb ?_
    refine evC_sound (Λ := Λ) (nt := nt) (na := args.length + 1) (w0 := w) hm hΦ (fun w' hg => hGrow g w w' hInv hat (by rw [← hβ1]; exact hg)) c hl σ _ a0 w _ ⟨by simp [σ]; omega, _, hR⟩ hE fun e σ' a' w' hk hR' => ?_
    obtain ⟨_, β', hR'⟩ := hR'
    have hgrow := hR'.grow
    rw [hβ1] at hgrow
    have fin : finishH P fn T L g cap lo len (fun r => r = res) σ' → bodyPost P fn (fun e w' => ∃ v, e = .returned v ∧ After (.handv T L none lo len :: args) res w w' β (.slice (some ⟨g, lo, none⟩) len cap :: tl) v) .normal a' w' := by
      intro hf
      unfold finishH at hf
      split at hf
      · rename_i b g' cap' lo' len' hs
        split at hf
        · rename_i T' L' hbx
          obtain ⟨rfl, rfl, hll', hf⟩ := hf
          have hV0 := getTmp_V hR' 0
          rw [hs] at hV0
          simp only [V] at hV0
          obtain ⟨_, g1, cap1, hgc, _, _, hd⟩ := hV0
          have hgc : g' = g1 ∧ cap' = cap1 := by
            rcases hgc with h | h
            · cases h
            · cases h; exact ⟨rfl, rfl⟩
          obtain ⟨rfl, rfl⟩ := hgc
          obtain ⟨q1, _, _⟩ := hd T' L' hbx
          have hbok := hR'.boxes b
          rw [hbx] at hbok
          have hat' : HandAt w' T' L' g' := hbok.2.2 g' q1
          have fin2 : ∀ {r : AV} {u : Value}, .boxv [.dig [] L', r] = res → (results fn a'.tmps).run P w' = .ok u w' → HandRes g' cap lo len r u → bodyPost P fn (fun e w' => ∃ v, e = .returned v ∧ After (.handv T' L none lo len :: args) res w w' β (.slice (some ⟨g', lo, none⟩) len cap :: tl) v) .normal a' w' := by
            intro r u hres hrun hr
            subst hres
            refine ⟨hR'.defers, u, hrun, u, rfl, ?_⟩
            unfold After
            exact ⟨g', cap, tl, rfl, hgrow, hll', hbok.2.1, hat', hr⟩
          have one : ∀ {r : AV}, resultsAV P σ' fn.results.toList = some [r] → ∃ u, (results fn a'.tmps).run P w' = .ok u w' ∧ V ⟨σ'.box, β', w'⟩ r u := by
            intro r havs
            obtain ⟨vs, h1, h2⟩ := run_results (P := P) hR' _ _ havs
            have hrun : (fn.results.mapM (resG a'.tmps)).run P w' = .ok vs.toArray w' := by
              rw [Array.mapM_eq_mapM_toList, Sem.run_map, h1]
              rfl
            obtain ⟨u, rfl, hu⟩ := h2.one
            refine ⟨u, ?_, hu⟩
            rw [results_eq]
            simp only [Sem.run_bind, hrun, Result.andThen_ok, Sem.run_pure]
            rfl
          split at hf
          · rename_i k d havs
            obtain ⟨u, hu1, hu2⟩ := one havs
            simp only [V] at hu2
            exact fin2 (r := .num k d) hf hu1 hu2
          · rename_i b' g2 cap2 lo2 k havs
            obtain ⟨rfl, rfl, rfl, hkl, hf⟩ := hf
            obtain ⟨u, hu1, hu2⟩ := one havs
            simp only [V] at hu2
            obtain ⟨_, g3, cap3, hgc3, hu3, _, _⟩ := hu2
            have : g2 = g3 ∧ cap2 = cap3 := by
              rcases hgc3 with h | h
              · cases h
              · cases h; exact ⟨rfl, rfl⟩
            obtain ⟨rfl, rfl⟩ := this
            exact fin2 (r := .addr 0 k) hf hu1 ⟨hu3, hkl⟩
          · exact hf.elim
        · exact hf.elim
      · exact hf.elim
    cases e with
    | normal => exact fin hk
    | ret => exact fin hk
    | _ => exact hk.elim

end
end Go.AI
