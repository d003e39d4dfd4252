/- My texts AIrow, in one. -/
import Derived.Test.YtppdoggngcpcpaaDoorK12
import Derived.Test.YtppdoggngcpcpaaDoorRows
import Derived.WalkKit
import Derived.ProofKit
import Derived.LaidMore
import Derived.OpenShut
import Derived.Below
import Derived.Carry
import Derived.SizedLaws
import Derived.Lib.LaidTab
import Derived.Deep.Strs
namespace Go.AI
open Go Go.RowKit Go.Proofs Go.ChangeShapes Go.WideShapes Go.ChangeAt
set_option linter.unusedVariables false
set_option maxRecDepth 100000
theorem rowOwn : ownKnob Tryd.prog.godebug = none := by kernel_rfl
theorem rowOut : laidOutB Tryd.prog = true := by kernel_rfl
theorem gTab : Tryd.prog.globalNamed "math/bits.deBruijn32tab" = some 0 := by kernel_rfl
/-- the one listed variable, as the rows list it -/
abbrev tabLaid : List (String × DataW Unit) := [("math/bits.deBruijn32tab", YtppdoggngcpcpaaDoor.Rows.laid_math_bits_deBruijn32tab)]
theorem tab_eq : (YtppdoggngcpcpaaDoor.Rows.laid_math_bits_deBruijn32tab : DataW Unit) = Lib.tabData .u8 (Lib.deBruijn32tab.map fun (x : Nat) => (x : Int)) := by rfl
theorem inv_of_laid {W : World} (h : laidMetH Tryd.prog tabLaid W) : Inv W := by
  rw [MakeChecks.laidMetH_plain _ _ _ (by kernel_rfl)] at h
  unfold tabLaid at h
  rw [tab_eq] at h
  have hT := Lib.tabIs_of_head (rest := []) gTab (by kernel_rfl : (Tryd.prog.globals[0]?).map (·.type) = some 105) Tryd.underlying105 Tryd.underlying5 (by kernel_rfl) (by kernel_rfl) h
  intro j hj
  have := hT.cell gTab j (by rw [List.length_map, show Lib.deBruijn32tab.length = 32 from rfl]; exact hj)
  rw [this]
  have hl : j < Lib.deBruijn32tab.length := hj
  simp [List.getD_eq_getElem?_getD, hl]
/-- all memory that there is -/
abbrev allβ (W : World) : Nat → Nat → Prop := fun _ x => x < W.heap.size
theorem weights_part {H : Type} {P : Program} {ts : List TypeId} {ds : List (DataW H)} (h : (DataW.weightsEach P ts ds).all (· ≤ reachBytes) = true) {j : Nat} {t : TypeId} {d : DataW H} (ht : ts[j]? = some t) (hd : ds[j]? = some d) {n : Nat} (hn : n ∈ d.weights P t) : n ≤ reachBytes := by
  have := List.all_eq_true.1 h n (DataW.weights_mem_each ht hd n hn)
  simpa using this
/-- a number, as a row hands it in -/
theorem open_num {H : Type} {enc : TypeId × Value → H} {W : World} {b0 na : Nat} {t : TypeId} {k : IntKind} {v : Value} {d : DataW H} {ps : List MemPlace} (hu : Tryd.prog.underlying t = some (.int k)) (hval : Value.okWide Tryd.prog W .any b0 t v) (hd : DataW.Trod enc Tryd.prog W 0 (fun _ => true) true t v d ps) :
    ∃ n, V ⟨argBs na, allβ W, W⟩ (.num k n) v := by
  obtain ⟨n, rfl, _, _, hw⟩ := open_int hu hval hd
  refine ⟨n, ?_⟩
  simp only [V]
  simp only [Lit.wf, Bool.and_eq_true, decide_eq_true_eq] at hw
  exact ⟨trivial, hw⟩
theorem dyTypes : Tryd.prog.cellTypes Tryd.prog.depth 24 = some [4, 22, 3] := by kernel_rfl
theorem dyCells : Tryd.prog.cellsOf 24 = 3 := by kernel_rfl
theorem oneBool : Tryd.prog.cellsOf 4 = 1 := by kernel_rfl
theorem oneSlice : Tryd.prog.cellsOf 22 = 1 := by kernel_rfl
theorem oneU32 : Tryd.prog.cellsOf 48 = 1 := by kernel_rfl
theorem bytesU32 : Tryd.prog.bytesOf 48 = 4 := by kernel_rfl
/-- a dyadic number, as a row hands it in -/
theorem open_dy {H : Type} {enc : TypeId × Value → H} {W : World} {b0 na : Nat} {v : Value} {d : DataW H} {ps : List MemPlace} {ts : List TypeId} {ds : List (DataW H)} (i : Nat) (hi : i ≤ na) (hval : Value.okWide Tryd.prog W .any b0 24 v)
    (hd : DataW.Trod enc Tryd.prog W 0 (fun _ => true) true 24 v d ps) (hsz : (DataW.weightsEach Tryd.prog ts ds).all (· ≤ reachBytes) = true) {j : Nat} (ht : ts[j]? = some 24) (hdj : ds[j]? = some d) :
    ∃ s l e, V ⟨argBs na, allβ W, W⟩ (.agg [.bool s, .dig [i] l, .num .i64 e]) v := by
  simp only [Value.okWide, Tryd.underlying24] at hval
  obtain ⟨cs, rfl, hcs, ts', hct, _, hrow⟩ := hval
  rw [dyTypes] at hct
  cases hct
  rw [dyCells] at hcs
  obtain ⟨c0, c1, c2, rfl⟩ : ∃ c0 c1 c2, cs = #[c0, c1, c2] := by
    obtain ⟨l⟩ := cs
    match l, hcs with
    | [a, b, c], _ => exact ⟨a, b, c, rfl⟩
  obtain ⟨u0, hu0, k0⟩ := hrow 0 c0 rfl
  obtain ⟨u1, hu1, k1⟩ := hrow 1 c1 rfl
  obtain ⟨u2, hu2, k2⟩ := hrow 2 c2 rfl
  simp at hu0 hu1 hu2
  subst hu0 hu1 hu2
  obtain ⟨fuel, hf⟩ := hd
  obtain ⟨y0, y1, y2, n, hx, _, g0, g1, g2⟩ := Deep.trod_struct3 Tryd.underlying24 hf
  simp only [Value.cells, oneSlice] at g1
  simp only [Prod.mk.injEq] at hx
  obtain ⟨rfl, -⟩ := hx
  have hb : ∃ s, c0 = .bool s := by
    simp only [Cell.okWide, Cell.ok, Tryd.underlying4] at k0
    cases c0 <;> simp at k0
    exact ⟨_, rfl⟩
  have he : ∃ e, c2 = .int .i64 e ∧ IntKind.i64.min ≤ e ∧ e ≤ IntKind.i64.max := by
    simp only [Cell.okWide, Cell.ok, Tryd.underlying3] at k2
    cases c2 <;> simp at k2
    obtain ⟨rfl, h⟩ := k2
    exact ⟨_, rfl, h.1, h.2⟩
  obtain ⟨s, rfl⟩ := hb
  obtain ⟨e, rfl, he⟩ := he
  have g1' : DataW.trod enc Tryd.prog W 0 (fun _ => true) true n 22 [c1] = some y1 := g1
  have hborn : Ctx.born ⟨argBs na, allβ W, W⟩ [i] := fun j hj => by
    simp at hj; subst hj
    show argBs na j ≠ _
    unfold argBs
    rw [if_pos hi]
    simp
  rcases open_ints Tryd.underlying22 Tryd.underlying48 oneU32 g1' with ⟨hc, _⟩ | ⟨a, len, cap, zs, hc, _, hlen, hcap, hzl, hy, hcell, hwf⟩
  · cases hc
    refine ⟨s, [], e, ?_⟩
    simp only [V]
    refine ⟨[.bool s, .slice none 0 0, .int .i64 e], rfl, ?_⟩
    simp only [Vs, V]
    exact ⟨trivial, ⟨hborn, ⟨by simp, by simp⟩, none, 0, rfl, fun _ => .inl ⟨rfl, rfl⟩⟩, ⟨trivial, he⟩, trivial⟩
  · cases hc
    simp only [if_true] at hzl
    have hspot : a.spot = none ∧ ∃ cells T fr, W.heap[a.block]? = some (.cells cells T fr) := by
      simp only [Cell.okWide, Cell.ok, Tryd.underlying22] at k1
      obtain ⟨_, _, h3⟩ := k1
      unfold World.has at h3
      obtain ⟨_, h4, row, cells, h5, _⟩ := h3
      refine ⟨h4, ?_⟩
      unfold World.shape? at h5
      split at h5
      · rename_i c el fr hh
        exact ⟨c, el, fr, hh⟩
      · cases h5
    obtain ⟨hsp, cells, T, fr, hheap⟩ := hspot
    obtain ⟨b, off, sp⟩ := a
    simp only at hsp hheap
    subst hsp
    have hwz : ∀ z ∈ zs, 0 ≤ z ∧ z < 4294967296 := fun z hz => by
      have := hwf z hz
      simp only [Lit.wf, Bool.and_eq_true, decide_eq_true_eq] at this
      exact range_u32 this
    have hll : ((zs.take len).map Int.toNat).length = len := by simp; omega
    refine ⟨s, (zs.take len).map Int.toNat, e, ?_⟩
    simp only [V]
    refine ⟨[.bool s, .slice (some ⟨b, off, none⟩) len cap, .int .i64 e], rfl, ?_⟩
    simp only [Vs, V]
    refine ⟨trivial, ⟨hborn, ⟨?_, fun x hx => ?_⟩, some ⟨b, off, none⟩, cap, by rw [hll], fun _ => .inr ⟨b, off, cells, T, fr, rfl, ⟨i, by simp, ?_⟩, hheap, by omega, fun j hj => ?_, fun j x hj => ?_⟩⟩, ⟨trivial, he⟩, trivial⟩
    · rw [hll]
      have hw : (((lits .u32 (zs.take len) : List (DataW H)).length + (lits .u32 (zs.drop len) : List (DataW H)).length) * 4) ≤ reachBytes := by
        refine weights_part hsz ht hdj ?_
        have hy1 := congrArg Prod.fst hy
        simp only at hy1
        simp only [DataW.weights, Tryd.underlying24, DataW.weightsEach, hy1, Tryd.underlying22, bytesU32, List.map_cons, List.map_nil]
        simp
      have := reachBytes_lt
      simp [lits] at hw
      omega
    · simp only [List.mem_map] at hx
      obtain ⟨z, hz, rfl⟩ := hx
      have := hwz z (List.mem_of_mem_take hz)
      omega
    · exact (Array.getElem?_eq_some_iff.1 hheap).1
    · have hc := hcell j (by omega)
      rw [add_none, cell?_of_block hheap] at hc
      exact (Array.getElem?_eq_some_iff.1 hc).1
    · have hjl : j < len := by
        have := (List.getElem?_eq_some_iff.1 hj).1
        omega
      have hc := hcell j (by omega)
      rw [add_none, cell?_of_block hheap] at hc
      rw [hc]
      simp only [List.getElem?_map, List.getElem?_take, if_pos hjl] at hj
      obtain ⟨z, hz, rfl⟩ := Option.map_eq_some_iff.1 hj
      have := hwz z (List.mem_of_getElem? hz)
      simp only [List.getD_eq_getElem?_getD, hz, Option.getD_some]
      congr 2
      omega
end Go.AI
