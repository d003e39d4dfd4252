/- The operations on values, each for itself. -/
import Derived.Test.YtnhbdcnnanfacaaDoorAIop4
namespace Go.AI
open Go Go.RowKit
set_option linter.unusedVariables false
set_option linter.unusedSimpArgs false

section
variable {P : Program} {na : Nat} {β0 : Nat → Nat → Prop} {w0 : World} {σ : St} {β : Nat → Nat → Prop} {a : Act} {w : World} {o : Oper} {bx : Nat → Box} {Φ : Nat → List AV → Option Spec} {dr : Bool} {n : Nat} {e : Eff}

theorem StepOk.pure' {v : Value} {c : AV} {p : Option Prop} (hR : R na β0 w0 σ β a w) (hrun : (execOp a.eval o).run P w = .ok (.value v) w) (hV : V ⟨σ.box, β, w⟩ c v) :
    StepOk P na β0 w0 (σ.apply o.dst ⟨p, c, []⟩) o a w := StepOk.value hrun hR hV

theorem sound_binOp (hR : R na β0 w0 σ β a w) {op : BinOp} {t t' : TypeId} {x y : Operand} (ho : o.op = .binOp op t x y t')
    (he : eff P Φ dr σ.eval bx n o = some e) (hp : andO e.pre True) : StepOk P na β0 w0 (σ.apply o.dst e) o a w := by
  unfold eff at he
  rw [ho] at he
  simp only at he
  split at he
  · rename_i p v h
    cases he
    obtain ⟨r, h1, h2⟩ := binEff_V (t := t) (xo := x) (hR.V_eval x) (hR.V_eval y) (fun k n e => by subst e; rfl) h hp w
    refine StepOk.pure' hR (v := r) ?_ h2
    simp only [execOp, ho, Sem.run_bind, Result.andThen_ok, Sem.run_pure] at h1 ⊢
    rw [h1]
    rfl
  · cases he

theorem sound_unOp (hR : R na β0 w0 σ β a w) {op : UnOp} {t : TypeId} {x : Operand} (ho : o.op = .unOp op t x)
    (he : eff P Φ dr σ.eval bx n o = some e) : StepOk P na β0 w0 (σ.apply o.dst e) o a w := by
  have hV := hR.V_eval x
  unfold eff at he
  rw [ho] at he
  simp only at he
  split at he
  · rename_i v h
    cases he
    unfold unEff at h
    split at h
    · rename_i k m hx
      rw [hx] at hV
      have ex := hV.num_inv
      split at h
      · cases h
        exact StepOk.pure' hR (v := .int k (k.wrap (0 - m))) (by simp only [execOp, ho, ex, Op.unary, Op.intArith, Sem.run_bind, Sem.run_pure, Result.andThen_ok]) (by simp only [V]; exact ⟨trivial, wrapOk _ _⟩)
      · simp only [bitsI] at h
        cases h
        exact StepOk.pure' hR (v := .int k (k.wrap (BitVec.ofInt k.bits (if k.signed then -1 else k.max) ^^^ BitVec.ofInt k.bits m).toNat)) (by simp only [execOp, ho, ex, Op.unary, Op.intBits, Sem.run_bind, Sem.run_pure, Result.andThen_ok]) (by simp only [V]; exact ⟨trivial, wrapOk _ _⟩)
      · cases h
    · rename_i b hx
      rw [hx] at hV
      have ex := hV.bool_inv
      split at h
      · cases h
        exact StepOk.pure' hR (v := .bool !b) (by simp only [execOp, ho, ex, Op.unary, Sem.run_bind, Sem.run_pure, Result.andThen_ok]) (by simp only [V])
      · cases h
    · cases h
  · cases he

theorem sound_convert (hR : R na β0 w0 σ β a w) {t t' : TypeId} {x : Operand} (ho : o.op = .convert t t' x)
    (he : eff P Φ dr σ.eval bx n o = some e) : StepOk P na β0 w0 (σ.apply o.dst e) o a w := by
  have hV := hR.V_eval x
  unfold eff at he
  rw [ho] at he
  simp only at he
  split at he
  · rename_i k1 k2 k3 m h1 h2 hx
    cases he
    rw [hx] at hV
    have ex := hV.num_inv
    have u1 : ∃ k, P.underlying t = some (.int k) := by
      unfold intOfT at h1; split at h1
      · rename_i k hk; exact ⟨k, hk⟩
      · cases h1
    have u2 : P.underlying t' = some (.int k2) := by
      unfold intOfT at h2; split at h2
      · rename_i k hk; cases h2; exact hk
      · cases h2
    obtain ⟨k, u1⟩ := u1
    have hrun : (convert t t' (.int k3 m)).run P w = .ok (.int k2 (k2.wrap m)) w := by
      simp [convert, run_underlying u1, run_underlying u2, Conv.intToInt]
    refine StepOk.pure' hR (v := .int k2 (k2.wrap m)) ?_ (by simp only [V]; exact ⟨trivial, wrapOk _ _⟩)
    simp only [execOp, ho, ex, Sem.run_bind, Result.andThen_ok, hrun, Sem.run_pure]
  · cases he

theorem elem_of {t el : TypeId} (h : P.underlying t = some (.slice el)) : P.elem t = el := by simp [Program.elem, h]

theorem DigAt.drop {f : Nat → Prop} {base : Option Addr} {cap : Nat} {l : List Nat} (h : DigAt w f base cap l) {k : Nat} (hk : k ≤ l.length) :
    DigAt w f (if cap = k then base else base.map (·.add (k * 1))) (cap - k) (l.drop k) := by
  rcases h with ⟨h1, h2⟩ | ⟨b, off, cells, T, fr, h1, h2, h3, h4, h5⟩
  · subst h1; subst h2
    exact .inl ⟨by split <;> rfl, by simp⟩
  · subst h1
    by_cases hc : cap = k
    · rw [if_pos hc]
      exact .inr ⟨b, off, cells, T, fr, rfl, h2, h3, by simp; omega, fun j x hj => by rw [List.drop_eq_nil_of_le (by omega)] at hj; simp at hj⟩
    · rw [if_neg hc]
      refine .inr ⟨b, off + k, cells, T, fr, by simp [add_none], h2, h3, by simp; omega, fun j x hj => ?_⟩
      rw [List.getElem?_drop] at hj
      have := h5 (k + j) x hj
      rwa [← Nat.add_assoc] at this

theorem DigAt.take {f : Nat → Prop} {base : Option Addr} {cap : Nat} {l : List Nat} (h : DigAt w f base cap l) (k : Nat) : DigAt w f base cap (l.take k) := by
  rcases h with ⟨h1, h2⟩ | ⟨b, off, cells, T, fr, h1, h2, h3, h4, h5⟩
  · subst h2; exact .inl ⟨h1, by simp⟩
  · refine .inr ⟨b, off, cells, T, fr, h1, h2, h3, by simp; omega, fun j x hj => ?_⟩
    rw [List.getElem?_take] at hj
    split at hj
    · exact h5 j x hj
    · cases hj

theorem okDig.take {l : List Nat} (h : okDig l) (k : Nat) : okDig (l.take k) := ⟨by have := h.1; simp; omega, fun x hx => h.2 x (List.mem_of_mem_take hx)⟩
theorem okDig.drop {l : List Nat} (h : okDig l) (k : Nat) : okDig (l.drop k) := ⟨by have := h.1; simp; omega, fun x hx => h.2 x (List.mem_of_mem_drop hx)⟩

theorem DigAt.cap {f : Nat → Prop} {base : Option Addr} {cap : Nat} {l : List Nat} (h : DigAt w f base cap l) : l.length ≤ cap := by
  rcases h with ⟨h1, h2⟩ | ⟨b, off, cells, T, fr, h1, h2, h3, h4, h5⟩
  · subst h2; simp
  · exact h4

theorem sound_slice (hR : R na β0 w0 σ β a w) (hb : Sub bx σ.box) {t : TypeId} {x : Operand} {lo hi mx : Option Operand} (ho : o.op = .slice t x lo hi mx)
    (he : eff P Φ dr σ.eval bx n o = some e) (hp : andO e.pre True) : StepOk P na β0 w0 (σ.apply o.dst e) o a w := by
  have hV := hR.V_eval x
  unfold eff at he
  rw [ho] at he
  simp only at he
  split at he
  · rename_i p l hel hx
    rw [hx] at hV
    simp only [V] at hV
    obtain ⟨hbn, hok, base, cap, hxv, hd⟩ := hV
    split at he
    · rename_i har
      have hdig := hd (alive_of hb β w har)
      have hcap := hdig.cap
      obtain ⟨el, hu⟩ : ∃ el, u32Elem P t = some el := by
        unfold elemIsU32 at hel; exact Option.isSome_iff_exists.1 hel
      obtain ⟨u1, u2, i, u3, u4, u5, u6⟩ := u32Elem_spec hu
      have ht : P.underlying t = some (.slice (P.elem t)) := by rw [elem_of u1]; exact u1
      have hsz : (sizeOf (P.elem t)).run P w = .ok 1 w := by rw [elem_of u1]; exact run_sizeOf (by simp [size?, u3, u4]) w
      split at he
      · rename_i lo'
        have hVl := hR.V_eval lo'
        split at he
        · rename_i k m hlo
          cases he
          rw [hlo] at hVl
          have el' := hVl.num_inv
          obtain ⟨⟨p1, p2⟩, _⟩ := hp
          refine StepOk.pure' hR (v := .slice (if cap = m.toNat then base else base.map (·.add (m.toNat * 1))) (l.drop m.toNat).length (cap - m.toNat)) ?_ ?_
          · have hr := run_slice_l (P := P) w t base l.length cap ht k m p1 (by omega)
            simp only [execOp, ho, hxv, Option.map_some, Option.map_none, el', Sem.run_bind, run_sliceAt_slice w t _ _ _ _ ht, hr, hsz, Result.andThen_ok, Sem.run_pure, sliced, List.length_drop]
          · simp only [V]
            exact ⟨hbn, hok.drop _, _, _, rfl, fun _ => hdig.drop (by omega)⟩
        · cases he
      · rename_i hi'
        have hVh := hR.V_eval hi'
        split at he
        · rename_i k m hhi
          cases he
          rw [hhi] at hVh
          have eh := hVh.num_inv
          obtain ⟨⟨p1, p2⟩, _⟩ := hp
          have hlen : (l.take m.toNat).length = m.toNat := by simp; omega
          refine StepOk.pure' hR (v := .slice base (l.take m.toNat).length cap) ?_ ?_
          · have hr := run_slice_h (P := P) w t base l.length cap ht k m p1 (by omega)
            simp only [execOp, ho, hxv, Option.map_some, Option.map_none, eh, Sem.run_bind, run_sliceAt_slice w t _ _ _ _ ht, hr, hsz, Result.andThen_ok, Sem.run_pure, sliced, hlen, Nat.zero_mul, Nat.sub_zero, Addr.add_zero']
            congr 2
            split <;> cases base <;> simp
          · simp only [V]
            exact ⟨hbn, hok.take _, _, _, rfl, fun _ => hdig.take _⟩
        · cases he
      · rename_i lo' hi'
        have hVl := hR.V_eval lo'
        have hVh := hR.V_eval hi'
        split at he
        · rename_i k m k' m' hlo hhi
          cases he
          rw [hlo] at hVl
          rw [hhi] at hVh
          have el' := hVl.num_inv
          have eh := hVh.num_inv
          obtain ⟨⟨p1, p2, p3⟩, _⟩ := hp
          have hlen : ((l.take m'.toNat).drop m.toNat).length = m'.toNat - m.toNat := by simp; omega
          refine StepOk.pure' hR (v := .slice (if cap = m.toNat then base else base.map (·.add (m.toNat * 1))) ((l.take m'.toNat).drop m.toNat).length (cap - m.toNat)) ?_ ?_
          · have hr := run_slice_lh (P := P) w t base l.length cap ht k k' m m' p1 p2 (by omega)
            simp only [execOp, ho, hxv, Option.map_some, Option.map_none, el', eh, Sem.run_bind, run_sliceAt_slice w t _ _ _ _ ht, hr, hsz, Result.andThen_ok, Sem.run_pure, sliced, hlen]
          · simp only [V]
            exact ⟨hbn, (hok.take _).drop _, _, _, rfl, fun _ => (hdig.take _).drop (by simp; omega)⟩
        · cases he
      · cases he
        refine StepOk.pure' hR (v := .slice base l.length cap) ?_ ?_
        · have hr := run_slice_all (P := P) w t base l.length cap ht
          simp only [execOp, ho, hxv, Option.map_some, Option.map_none, Sem.run_bind, run_sliceAt_slice w t _ _ _ _ ht, hr, hsz, Result.andThen_ok, Sem.run_pure, sliced, Nat.zero_mul, Nat.sub_zero, Addr.add_zero']
          congr 2
          split <;> cases base <;> simp
        · simp only [V]
          exact ⟨hbn, hok, _, _, rfl, fun _ => hdig⟩
    · cases he
  · cases he

theorem fieldOf_spec {t : TypeId} {f off s : Nat} {ty : TypeId} (h : fieldOf P t f = some (off, s, ty)) : ∃ fs fd, P.underlying t = some (.struct fs) ∧ fs[f]? = some fd ∧ fd.offset = off ∧ fd.type = ty ∧ size? P fd.type = some s := by
  unfold fieldOf at h
  split at h
  · rename_i fs hu
    split at h
    · rename_i fd hf
      split at h
      · rename_i s' hs
        cases h
        exact ⟨fs, fd, hu, hf, rfl, rfl, hs⟩
      · cases h
    · cases h
  · cases h

theorem sound_fieldAddr (hR : R na β0 w0 σ β a w) (hb : Sub bx σ.box) {t : TypeId} {x : Operand} {f : Nat} (ho : o.op = .fieldAddr t x f)
    (he : eff P Φ dr σ.eval bx n o = some e) : StepOk P na β0 w0 (σ.apply o.dst e) o a w := by
  have hV := hR.V_eval x
  unfold eff at he
  rw [ho] at he
  simp only at he
  split at he
  · rename_i off s ty b o' hf hx
    split at he
    · cases he
    rename_i hs0
    split at he
    · rename_i cs hbx
      cases he
      obtain ⟨fs, fd, u1, u2, u3, u4, u5⟩ := fieldOf_spec hf
      rw [hx] at hV
      simp only [V] at hV
      obtain ⟨blk, hβ, hxv⟩ := hV.2 (by rw [hb.cells hbx]; trivial)
      refine StepOk.pure' hR (v := .pointer (some ⟨blk, o' + off, none⟩)) ?_ (by simp only [V]; exact ⟨hV.1, fun _ => ⟨blk, hβ, rfl⟩⟩)
      simp only [execOp, ho, hxv, Instr.fieldAt, Sem.run_bind, run_underlying u1, Result.andThen_ok, u2, Instr.sureAddr, Sem.run_pure, fieldPlace, run_sizeOf u5, if_neg hs0, add_none, u3]
    · cases he
  · rename_i off s ty p cs hf hx
    split at he
    · cases he
    · rename_i hs0
      cases he
      obtain ⟨fs, fd, u1, u2, u3, u4, u5⟩ := fieldOf_spec hf
      rw [hx] at hV
      simp only [V] at hV
      obtain ⟨hbn, vs, hvs, b, o', hxv, hc⟩ := hV
      refine StepOk.pure' hR (v := .pointer (some ⟨b, o' + off, none⟩)) ?_ ?_
      · simp only [execOp, ho, hxv, Instr.fieldAt, Sem.run_bind, run_underlying u1, Result.andThen_ok, u2, Instr.sureAddr, Sem.run_pure, fieldPlace, run_sizeOf u5, if_neg hs0, add_none, u3]
      · simp only [V]
        refine ⟨hbn, _, hvs.drop off, b, o' + off, rfl, fun ha => ⟨(hc ha).1, fun j u hj => ?_⟩⟩
        rw [List.getElem?_drop] at hj
        have := (hc ha).2 (off + j) u hj
        rwa [← Nat.add_assoc] at this
  · cases he

theorem run_part {C : Ctx} {t : TypeId} {cs : List AV} {c : AV} {off : Nat} (hp : packAt P t (cs.drop off) = some c) {vs : List Value} (hvs : Vs C cs vs) (w : World) :
    ∃ v, (part t vs.toArray off).run P w = .ok v w ∧ V C c v := by
  unfold packAt at hp
  split at hp
  · rename_i s h1 h2
    split at hp
    · cases hp
      refine ⟨.agg (vs.toArray.extract off (off + s)), ?_, ?_⟩
      · simp only [part, Sem.run_bind, run_isAgg h1, Result.andThen_ok, if_true, run_sizeOf h2, Sem.run_pure]
      · simp only [V]
        refine ⟨(vs.drop off).take s, ?_, (hvs.drop off).take s⟩
        simp [List.take_drop]
    · cases hp
  · rename_i h1
    cases hd : cs.drop off with
    | nil => rw [hd] at hp; simp at hp
    | cons c' cs' =>
      rw [hd] at hp
      simp at hp
      subst hp
      have hc : cs[off]? = some c' := by
        have : (cs.drop off)[0]? = some c' := by rw [hd]; rfl
        rw [List.getElem?_drop] at this
        simpa using this
      obtain ⟨v, hv1, hv2⟩ := hvs.get hc
      refine ⟨v, ?_, hv2⟩
      simp only [part, Sem.run_bind, run_isAgg h1, Result.andThen_ok, Bool.false_eq_true, if_false, List.getElem?_toArray, hv1, Sem.run_pure]
  · cases hp

theorem sound_field (hR : R na β0 w0 σ β a w) {t : TypeId} {x : Operand} {f : Nat} (ho : o.op = .field t x f)
    (he : eff P Φ dr σ.eval bx n o = some e) : StepOk P na β0 w0 (σ.apply o.dst e) o a w := by
  have hV := hR.V_eval x
  unfold eff at he
  rw [ho] at he
  simp only at he
  split at he
  · rename_i off s ty cs hf hx
    split at he
    · rename_i v hpk
      cases he
      obtain ⟨fs, fd, u1, u2, u3, u4, u5⟩ := fieldOf_spec hf
      rw [hx] at hV
      simp only [V] at hV
      obtain ⟨vs, hxv, hvs⟩ := hV
      obtain ⟨r, hr1, hr2⟩ := run_part (P := P) hpk hvs w
      refine StepOk.pure' hR (v := r) ?_ hr2
      simp only [execOp, ho, hxv, Instr.field, Sem.run_bind, run_underlying u1, Result.andThen_ok, u2, asAgg, Sem.run_pure, u3, u4, hr1]
    · cases he
  · cases he

theorem sound_extract (hR : R na β0 w0 σ β a w) {x : Operand} {i : Nat} (ho : o.op = .extract x i)
    (he : eff P Φ dr σ.eval bx n o = some e) : StepOk P na β0 w0 (σ.apply o.dst e) o a w := by
  have hV := hR.V_eval x
  unfold eff at he
  rw [ho] at he
  simp only at he
  split at he
  · rename_i vs hx
    split at he
    · rename_i v hv
      cases he
      rw [hx] at hV
      simp only [V] at hV
      obtain ⟨us, hxv, hus⟩ := hV
      obtain ⟨u, hu1, hu2⟩ := hus.get hv
      refine StepOk.pure' hR (v := u) ?_ hu2
      simp only [execOp, ho, hxv, Instr.extract, Sem.run_bind, List.getElem?_toArray, hu1, Sem.run_pure, Result.andThen_ok]
    · cases he
  · cases he

theorem evals_V (hR : R na β0 w0 σ β a w) (xs : Array Operand) : Vs ⟨σ.box, β, w⟩ (xs.toList.map σ.eval) (xs.map a.eval).toList := by
  refine Vs.of (by simp) fun i c v h1 h2 => ?_
  simp at h1 h2
  obtain ⟨x, hx, rfl⟩ := h1
  obtain ⟨y, hy, rfl⟩ := h2
  rw [hx] at hy
  cases hy
  exact hR.V_eval x

theorem sound_makeFunc (hR : R na β0 w0 σ β a w) {fn : Fn} {first captured : Array Operand} (ho : o.op = .makeFunc fn first captured)
    (he : eff P Φ dr σ.eval bx n o = some e) : StepOk P na β0 w0 (σ.apply o.dst e) o a w := by
  unfold eff at he
  rw [ho] at he
  cases fn <;> simp only at he
  case func f =>
    split at he
    · rename_i h0
      cases he
      have hf : first = #[] := Array.eq_empty_of_size_eq_zero h0
      refine StepOk.pure' hR (v := .func (.func f) #[] (captured.map a.eval)) ?_ ?_
      · simp only [execOp, ho, hf, Instr.makeFunc, Sem.run_bind, Sem.run_pure, Result.andThen_ok, Array.map_empty]
      · simp only [V]
        exact ⟨(captured.map a.eval).toList, by rw [Array.toArray_toList], evals_V hR captured⟩
    · cases he
  all_goals cases he

end
end Go.AI
