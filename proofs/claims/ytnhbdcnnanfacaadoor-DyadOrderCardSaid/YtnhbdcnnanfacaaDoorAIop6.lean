/- Elements of slices, slices built at once, the builtin functions. -/
import Derived.Test.YtnhbdcnnanfacaaDoorAIop5
namespace Go.AI
open Go Go.RowKit
set_option linter.unusedVariables false
set_option linter.unusedSimpArgs false

section
variable {P : Program} {na : Nat} {β0 : Nat → Nat → Prop} {w0 : World} {σ : St} {β : Nat → Nat → Prop} {a : Act} {w : World} {o : Oper} {bx : Nat → Box} {Φ : Nat → List AV → Option Spec} {dr : Bool} {n : Nat} {e : Eff}

theorem elemSize_spec {t s : TypeId} (h : elemSize P t = some s) : ∃ el i z, P.underlying t = some (.slice el) ∧ P.info? el = some i ∧ i.size = s ∧ i.zero = some z := by
  unfold elemSize at h
  split at h
  · rename_i el hu
    split at h
    · rename_i i hi
      split at h
      · rename_i z hz
        cases h
        exact ⟨el, i, z, hu, hi, rfl, hz⟩
      · cases h
    · cases h
  · cases h

theorem sound_indexAddr (hR : R na β0 w0 σ β a w) (hb : Sub bx σ.box) {t : TypeId} {x ix : Operand} (ho : o.op = .indexAddr t x ix)
    (he : eff P Φ dr σ.eval bx n o = some e) (hp : andO e.pre True) : StepOk P na β0 w0 (σ.apply o.dst e) o a w := by
  have hV := hR.V_eval x
  have hVi := hR.V_eval ix
  unfold eff at he
  rw [ho] at he
  simp only at he
  split at he
  · rename_i p l k i hx hi
    split at he
    · rename_i hc
      cases he
      obtain ⟨⟨p1, p2⟩, _⟩ := hp
      simp only [Bool.and_eq_true] at hc
      obtain ⟨el, hu⟩ : ∃ el, u32Elem P t = some el := Option.isSome_iff_exists.1 hc.1
      obtain ⟨u1, u2, inf, u3, u4, u5, u6⟩ := u32Elem_spec hu
      have ht : P.underlying t = some (.slice (P.elem t)) := by rw [elem_of u1]; exact u1
      have hsz : (sizeOf (P.elem t)).run P w = .ok 1 w := by rw [elem_of u1]; exact run_sizeOf (by simp [size?, u3, u4]) w
      rw [hx] at hV
      rw [hi] at hVi
      have ei := hVi.num_inv
      simp only [V] at hV
      obtain ⟨hbn, hok, base, cap, hxv, hd⟩ := hV
      have hal := alive_of hb β w hc.2
      rcases hd hal with ⟨h1, h2⟩ | ⟨b, off, cells, T, fr, h1, h2, h3, h4, h5⟩
      · subst h2; simp at p2; omega
      · subst h1
        have hlt : i.toNat < l.length := by omega
        refine StepOk.pure' hR (v := .pointer (some ⟨b, off + i.toNat, none⟩)) ?_ ?_
        · have hr := run_indexAt_slice (P := P) w t ⟨b, off, none⟩ l.length cap k i ht
          rw [if_pos ⟨p1, p2⟩, hsz] at hr
          simp only [execOp, ho, hxv, ei, Sem.run_bind, hr, Result.andThen_ok, Sem.run_pure, Nat.mul_one, add_none]
        · simp only [V]
          refine ⟨hbn, [.int .u32 (l.getD i.toNat 0 : Nat)], ?_, b, off + i.toNat, rfl, fun _ => ⟨h2, fun j u hj => ?_⟩⟩
          · simp only [Vs]; exact ⟨V_u32 _ (okDig_get hok _), trivial⟩
          · cases j with
            | succ j => simp at hj
            | zero =>
              simp at hj
              subst hj
              have := h5 i.toNat l[i.toNat] (by simp [hlt])
              rw [Nat.add_zero, cell?_of_block h3, this]
              simp [List.getD, hlt]
    · cases he
  · rename_i b k i hx hi
    split at he
    · rename_i T l hbx
      split at he
      · rename_i hc
        cases he
        obtain ⟨⟨p1, p2⟩, _⟩ := hp
        obtain ⟨el, hu⟩ : ∃ el, u32Elem P t = some el := Option.isSome_iff_exists.1 hc
        obtain ⟨u1, u2, inf, u3, u4, u5, u6⟩ := u32Elem_spec hu
        have ht : P.underlying t = some (.slice (P.elem t)) := by rw [elem_of u1]; exact u1
        have hsz : (sizeOf (P.elem t)).run P w = .ok 1 w := by rw [elem_of u1]; exact run_sizeOf (by simp [size?, u3, u4]) w
        rw [hx] at hV
        rw [hi] at hVi
        have ei := hVi.num_inv
        simp only [V] at hV
        have hσ := hb.digs hbx
        rcases hV.2.2 T l hσ with ⟨_, h2⟩ | ⟨blk, cap, h1, h2, h3, _⟩
        · subst h2; simp at p2; omega
        · refine StepOk.pure' hR (v := .pointer (some ⟨blk, i.toNat, none⟩)) ?_ ?_
          · have hr := run_indexAt_slice (P := P) w t ⟨blk, 0, none⟩ l.length cap k i ht
            rw [if_pos ⟨p1, p2⟩, hsz] at hr
            simp only [execOp, ho, h2, ei, Sem.run_bind, hr, Result.andThen_ok, Sem.run_pure, Nat.mul_one, add_none, Nat.zero_add]
          · simp only [V]
            exact ⟨hV.1, fun _ => ⟨blk, h1, rfl⟩⟩
      · cases he
    · cases he
  · rename_i p s l k i hx hi
    split at he
    · rename_i hc
      simp only [Bool.and_eq_true, decide_eq_true_eq] at hc
      split at he
      · rename_i cs hcs
        cases he
        obtain ⟨⟨p1, p2⟩, _⟩ := hp
        obtain ⟨el, inf, z, u1, u3, u4, u6⟩ := elemSize_spec hc.1
        have ht : P.underlying t = some (.slice (P.elem t)) := by rw [elem_of u1]; exact u1
        have hsz : (sizeOf (P.elem t)).run P w = .ok s w := by rw [elem_of u1]; exact run_sizeOf (by simp [size?, u3, u4]) w
        rw [hx] at hV
        rw [hi] at hVi
        have ei := hVi.num_inv
        simp only [V] at hV
        obtain ⟨hbn, _, hs0, base, cap, us, hxv, hus, hsu, hd⟩ := hV
        have hal := alive_of hb β w hc.2
        have hlt : i.toNat < l.length := by omega
        have hul := hus.length
        rcases hd hal with h2 | ⟨b, off, h1, h2, h3, h4⟩
        · have : l.length = 0 := by rw [hul, h2]; rfl
          omega
        · subst h1
          have hel : l[i.toNat]? = some (l.getD i.toNat .junk) := by simp [List.getD, hlt]
          obtain ⟨u, hu1, hu2⟩ := hus.get hel
          refine StepOk.pure' hR (v := .pointer (some ⟨b, off + i.toNat * s, none⟩)) ?_ ?_
          · have hr := run_indexAt_slice (P := P) w t ⟨b, off, none⟩ l.length cap k i ht
            rw [if_pos ⟨p1, p2⟩, hsz] at hr
            simp only [execOp, ho, hxv, ei, Sem.run_bind, hr, Result.andThen_ok, Sem.run_pure, add_none]
          · simp only [V]
            refine ⟨hbn, u.cells.toList, cells_vs hu2 hcs, b, off + i.toNat * s, rfl, fun _ => ⟨h2, fun j y hj => ?_⟩⟩
            exact h4 i.toNat u j y hu1 (by simpa using hj)
      · cases he
    · cases he
  · cases he

/-- parts that are all there, one behind the other -/
theorem fill_all (s : Nat) : ∀ (us : List Value) (k : Nat) (cells : Array Value), (k + us.length) * s ≤ cells.size → (∀ u ∈ us, u.cells.size = s) →
    ∃ cells' : Array Value, Instr.fill (fun i => some (i * s, s)) cells ((us.zipIdx k).map fun x => (x.2, x.1)) = some cells' ∧ cells'.size = cells.size ∧
      (∀ m, m < k * s → cells'[m]? = cells[m]?) ∧ ∀ (i : Nat) (u : Value) (j : Nat) (x : Value), us[i]? = some u → u.cells[j]? = some x → cells'[(k + i) * s + j]? = some x
  | [], k, cells, _, _ => ⟨cells, rfl, rfl, fun _ _ => rfl, fun i u j x h => by simp at h⟩
  | u :: us, k, cells, hsz, hu => by
    have hus : u.cells.size = s := hu u (by simp)
    have hle : k * s + s ≤ cells.size := by
      have : (k + 1) * s ≤ (k + (u :: us).length) * s := Nat.mul_le_mul_right _ (by simp)
      rw [Nat.add_mul, Nat.one_mul] at this
      omega
    have hz : u.cells.zipIdx.foldl (fun cs (x : Value × Nat) => cs.setIfInBounds (k * s + x.2) x.1) cells = u.cells.toList.zipIdx.foldl (fun cs (x : Value × Nat) => cs.setIfInBounds (k * s + x.2) x.1) cells := by
      rw [← Array.foldl_toList, Array.toList_zipIdx]
    have hfo := foldl_put (k * s) u.cells.toList 0 cells (by simp; omega)
    simp only [Nat.add_zero] at hfo
    generalize hc1 : u.cells.toList.zipIdx.foldl (fun cs (x : Value × Nat) => cs.setIfInBounds (k * s + x.2) x.1) cells = c1 at hfo hz
    have hs1 : c1.size = cells.size := by
      have := congrArg List.length hfo
      simp at this
      omega
    obtain ⟨c2, h1, h2, h3, h4⟩ := fill_all s us (k + 1) c1 (by rw [hs1]; simp at hsz; rw [show k + 1 + us.length = k + (us.length + 1) by omega]; exact hsz) (fun v hv => hu v (by simp [hv]))
    have hget : ∀ m, c1[m]? = (cells.toList.take (k * s) ++ u.cells.toList ++ cells.toList.drop (k * s + u.cells.toList.length))[m]? := fun m => by
      rw [← hfo]; exact Array.getElem?_toList.symm
    refine ⟨c2, ?_, by omega, fun m hm => ?_, fun i v j x hi hj => ?_⟩
    · rw [List.zipIdx_cons, List.map_cons]
      unfold Instr.fill
      have hc : ¬ ((decide (u.cells.size ≠ s) || decide (k * s + u.cells.size > cells.size)) = true) := by simp; omega
      dsimp only
      rw [if_neg hc, hz]
      exact h1
    · rw [h3 m (by rw [Nat.add_mul]; omega), hget, List.append_assoc, List.getElem?_append_left (by simp; omega), List.getElem?_take, if_pos hm]
      simp
    · cases i with
      | zero =>
        simp at hi
        subst hi
        have hjs : j < s := by
          have := (Array.getElem?_eq_some_iff.1 hj).1
          omega
        rw [Nat.add_zero, h3 (k * s + j) (by rw [Nat.add_mul]; omega), hget, List.append_assoc, List.getElem?_append_right (by simp; omega), List.getElem?_append_left (by simp; omega)]
        simp [Nat.min_eq_left (show k * s ≤ cells.size by omega), hj]
      | succ i =>
        have := h4 i v j x (by simpa using hi) hj
        rwa [show k + 1 + i = k + (i + 1) by omega] at this

theorem inOrder_zip : ∀ (l : List (Nat × AV)) (k : Nat) {els : List AV}, inOrder k l = some els → l = (els.zipIdx k).map fun x => (x.2, x.1)
  | [], k, els, h => by simp [inOrder] at h; subst h; rfl
  | (j, v) :: l, k, els, h => by
    unfold inOrder at h
    split at h
    · rename_i e
      split at h
      · rename_i r hr
        cases h
        subst e
        rw [List.zipIdx_cons, List.map_cons, ← inOrder_zip l (k + 1) hr]
      · cases h
    · cases h

theorem allDigs_spec {C : Ctx} : ∀ {els : List AV} {us : List Value} {l : List Nat}, Vs C els us → allDigs els = some l → l.length = us.length ∧ (∀ x ∈ l, x < 2 ^ 32) ∧ ∀ (j x : Nat), l[j]? = some x → us[j]? = some (.int .u32 (x : Int))
  | [], [], l, _, h => by simp [allDigs] at h; subst h; simp
  | .num k m :: els, u :: us, l, hv, h => by
    simp only [Vs] at hv
    cases k <;> simp only [allDigs] at h <;> try cases h
    split at h
    · rename_i r hr
      cases h
      obtain ⟨h1, h2, h3⟩ := allDigs_spec hv.2 hr
      have hn := hv.1
      simp only [V] at hn
      obtain ⟨e, r1, r2⟩ := hn
      obtain ⟨q1, q2⟩ := u32_of r1 r2
      refine ⟨by simp [h1], fun x hx => ?_, fun j x hj => ?_⟩
      · rcases List.mem_cons.1 hx with rfl | hx
        · exact q2
        · exact h2 x hx
      · cases j with
        | zero => simp at hj; subst hj; simp [e, q1]
        | succ j => simpa using h3 j x (by simpa using hj)
    · cases h
  | [], _ :: _, _, hv, _ => by simp only [Vs] at hv
  | _ :: _, [], _, hv, _ => by simp only [Vs] at hv
  | .junk :: _, _ :: _, _, _, h => by simp [allDigs] at h
  | .bool _ :: _, _ :: _, _, _, h => by simp [allDigs] at h
  | .nilS :: _, _ :: _, _, _, h => by simp [allDigs] at h
  | .dig .. :: _, _ :: _, _, _, h => by simp [allDigs] at h
  | .vec .. :: _, _ :: _, _, _, h => by simp [allDigs] at h
  | .agg _ :: _, _ :: _, _, _, h => by simp [allDigs] at h
  | .tup _ :: _, _ :: _, _, _, h => by simp [allDigs] at h
  | .addr .. :: _, _ :: _, _, _, h => by simp [allDigs] at h
  | .own _ :: _, _ :: _, _, _, h => by simp [allDigs] at h
  | .cref .. :: _, _ :: _, _, _, h => by simp [allDigs] at h
  | .fn .. :: _, _ :: _, _, _, h => by simp [allDigs] at h
  | .grown .. :: _, _ :: _, _, _, h => by simp [allDigs] at h
  | .boxv _ :: _, _ :: _, _, _, h => by simp [allDigs] at h

theorem allSize_spec {C : Ctx} {s : Nat} : ∀ {els : List AV} {us : List Value}, Vs C els us → allSize s els = true → ∀ u ∈ us, u.cells.size = s
  | [], [], _, _ => by simp
  | c :: els, u :: us, hv, h => by
    simp only [Vs] at hv
    simp only [allSize, Bool.and_eq_true] at h
    intro v hm
    rcases List.mem_cons.1 hm with rfl | hm
    · have h1 := h.1
      split at h1
      · rename_i cs hcs
        have := (cells_vs hv.1 hcs).length
        simp at this h1
        omega
      · cases h1
    · exact allSize_spec hv.2 h.2 v hm
  | [], _ :: _, hv, _ => by simp only [Vs] at hv
  | _ :: _, [], hv, _ => by simp only [Vs] at hv

theorem run_buildSlice {t el s len : Nat} {i : TypeInfo} {z : Value} (hu : P.underlying t = some (.slice el)) (hi : P.info? el = some i) (hs : i.size = s) (hz : i.zero = some z) (hlen : len ≤ 64) (hs64 : s ≤ 64)
    (parts : Array (Nat × Value)) (us : List Value) (hparts : parts.toList = (us.zipIdx 0).map fun x => (x.2, x.1)) (hus : us.length = len) (hsu : ∀ u ∈ us, u.cells.size = s) (w : World) :
    ∃ cells : Array Value, (Instr.buildSlice t len parts).run P w = .ok (.slice (some ⟨w.heap.size, 0, none⟩) len len) (w.alloc (.cells cells el)) ∧
      cells.size = len * s ∧ ∀ (i : Nat) (u : Value) (j : Nat) (x : Value), us[i]? = some u → u.cells[j]? = some x → cells[i * s + j]? = some x := by
  have hbig : ¬ (len * s > 2 ^ 24) := by
    have : len * s ≤ 64 * 64 := Nat.mul_le_mul hlen hs64
    omega
  have hsz : (sizeOf el).run P w = .ok s w := run_sizeOf (by simp [size?, hi, hs]) w
  have key : ∀ zero : Array Value, ∃ cells : Array Value, Instr.fill (fun i => some (i * s, s)) ((Array.range (len * s)).map (zero[· % zero.size]!)) parts.toList = some cells ∧ cells.size = len * s ∧
      ∀ (i : Nat) (u : Value) (j : Nat) (x : Value), us[i]? = some u → u.cells[j]? = some x → cells[i * s + j]? = some x := by
    intro zero
    obtain ⟨c, h1, h2, _, h4⟩ := fill_all s us 0 ((Array.range (len * s)).map (zero[· % zero.size]!)) (by simp [hus]) hsu
    rw [hparts]
    refine ⟨c, h1, by simpa using h2, fun i u j x hi hj => ?_⟩
    have := h4 i u j x hi hj
    rwa [Nat.zero_add] at this
  by_cases h0 : len * s = 0
  · obtain ⟨c, h1, h2, h3⟩ := key #[]
    refine ⟨c, ?_, h2, h3⟩
    unfold Instr.buildSlice
    simp only [Sem.run_bind, run_underlying hu, Result.andThen_ok, hsz, if_neg hbig, if_pos h0, Sem.run_pure]
    simp only [h1, newRow, Sem.run_bind, run_newObj, Result.andThen_ok, Sem.run_pure, World.alloc_eq]
  · obtain ⟨c, h1, h2, h3⟩ := key z.cells
    refine ⟨c, ?_, h2, h3⟩
    unfold Instr.buildSlice
    simp only [Sem.run_bind, run_underlying hu, Result.andThen_ok, hsz, if_neg hbig, if_neg h0, Sem.run_pure, zeroValue, typeInfo, run_program, hi, hz]
    simp only [h1, newRow, Sem.run_bind, run_newObj, Result.andThen_ok, Sem.run_pure, World.alloc_eq]

end
end Go.AI
