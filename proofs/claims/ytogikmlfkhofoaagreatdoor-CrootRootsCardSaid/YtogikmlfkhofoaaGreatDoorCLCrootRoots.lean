/- CrootRoots: whatever is handed in, the law answers true, and what was handed in reads as it did; before the call the one listed table of the library reads as its text lays it (tied). -/
import Derived.Test.YtogikmlfkhofoaaGreatDoorK22
import Derived.Test.YtogikmlfkhofoaaGreatDoorTie
import Derived.Test.YtogikmlfkhofoaaGreatDoorCards
import Derived.SevenTiedAt
namespace Go.Proofs.YtogikmlfkhofoaaGreatDoor
open Go Go.AI Go.RowKit Go.Proofs Go.ChangeShapes Go.WideShapes Go.ChangeAt
set_option linter.unusedVariables false
set_option maxRecDepth 100000
theorem crootRoots_met (os : Os) (args : Array Value) : laidMetH Tryz.prog PP ((World.doorLaid Tryz.prog 400 os).forCall (fun _ _ => 0) ⟨#[], args, []⟩).memory :=
  laidMetH_of_parts3 (fuel := 8) (laidMet_of_run' 8 (by kernel_rfl) (by kernel_rfl)) (by kernel_rfl) (by kernel_rfl)
theorem crootRoots_lifted (os : Os) (started : os.Started) (H : Type) (enc : TypeId × Value → H) :
    ReturnsInHanded {} Tryz.checked os 3 .any (fun w args => (Rows.crootRootsSpec.pre enc Tryz.prog Tryz.f3 [] false w args ∧ laidMetH Tryz.prog PP w) ∧ sizedMet enc Tryz.prog Tryz.f3 (OpenSpec.ofChange Rows.crootRootsSpec) false w args)
      (Rows.crootRootsSpec.post enc Tryz.prog Tryz.f3 false true false false) := by
  refine returnsInHanded_of_change_and (C := Tryz.checked) (X := fun w _ => laidMetH Tryz.prog PP w) (fun _ _ _ hh h => h.of_heap hh) D5i started (by kernel_rfl) Tryz.func3
    (ChangeSpec.witness_shaped (enc := enc) (C := Tryz.checked) (os := os) (X := fun w _ => laidMetH Tryz.prog PP w) false (World.doorLaid Tryz.prog 400 os) #[.int .u8 0, .int .u8 0, .agg #[.int .u64 0, .int .u64 0]] 8 rfl (World.shaped_of_RefB (by kernel_rfl) (by kernel_rfl)) (by kernel_rfl) (by kernel_rfl) (by kernel_rfl) (crootRoots_met os _)) ?_
  intro W base args ds gs before hval0 hW _ hsz0 hL _
  have hval : ∀ (j : Nat) t v, Tryz.f3.params[j]? = some t → args[j]? = some v → Value.okWide Tryz.prog W .any base t v := hval0
  have hsz : (DataW.weightsEach Tryz.prog (Tryz.f3.params.toList ++ Rows.crootRootsSpec.plain.varTypes Tryz.prog) (ds ++ gs)).all (· ≤ reachBytes) = true := hsz0
  have hW' := hW
  obtain ⟨p, q, hA0, hV, rfl, hfz, hnd⟩ := hW
  have hA : DataW.TrodAll enc Tryz.prog W 0 (fun _ => true) true Tryz.f3.params.toList args.toList ds p := hA0
  rw [Tryz.params3] at hA hval hsz
  obtain ⟨v0, vs0, d0, ds0, p0, q0, hargs, rfl, rfl, h0, r0⟩ := trodAll_cons hA
  obtain ⟨v1, vs1, d1, ds1, p1, q1, rfl, rfl, rfl, h1, r1⟩ := trodAll_cons r0
  obtain ⟨v2, vs2, d2, ds2, p2, q2, rfl, rfl, rfl, h2, r2⟩ := trodAll_cons r1
  obtain ⟨rfl, rfl, rfl⟩ := trodAll_nil r2
  obtain rfl : args = #[v0, v1, v2] := by cases args; simp_all
  obtain ⟨rfl, rfl⟩ := trodVars_none hV
  obtain ⟨n0, V0⟩ := B5f (na := 3) Tryz.underlying22 (hval 0 22 v0 rfl rfl) h0
  obtain ⟨n1, V1⟩ := B5f (na := 3) Tryz.underlying23 (hval 1 23 v1 rfl rfl) h1
  obtain ⟨n2, k2, V2⟩ := D56 (na := 3) (hval 2 26 v2 rfl rfl)
  have C := TN n0 n1 n2 k2
  refine (C.calls W [v0, v1, v2] (C3o W) (B2s hL) (fun _ _ h => h) (by simp only [Vs]; exact ⟨V0, V1, V2, trivial⟩) trivial).mono fun en W' ⟨v, hv, haf⟩ => ?_
  obtain ⟨hg, hr⟩ : Grow W W' ∧ V ⟨fun _ => .G4, AQ W W' (C3o W), W'⟩ (.bool true) v := haf
  simp only [V] at hr
  subst hr hv
  have lt0 : ∀ x ∈ p0, x.block < W.heap.size := by obtain ⟨k, hk⟩ := h0; exact DataW.trod_lt k _ _ _ hk
  have lt1 : ∀ x ∈ p1, x.block < W.heap.size := by obtain ⟨k, hk⟩ := h1; exact DataW.trod_lt k _ _ _ hk
  have lt2 : ∀ x ∈ p2, x.block < W.heap.size := by obtain ⟨k, hk⟩ := h2; exact DataW.trod_lt k _ _ _ hk
  exact ⟨_, rfl, _, _, _, [], _, [], hW', trodAll_mk1 (shut_bool Tryz.underlying4 _), (trodAll_cons_mk (Below.trod C1d (by kernel_rfl) (of_decide_eq_true (by kernel_rfl)) h0 hg.below lt0) (trodAll_cons_mk (Below.trod C1d (by kernel_rfl) (of_decide_eq_true (by kernel_rfl)) h1 hg.below lt1) (trodAll_cons_mk (Below.trod C1d (by kernel_rfl) (of_decide_eq_true (by kernel_rfl)) h2 hg.below lt2) trodAll_mk0))), rfl, hg.below.frame _, fun h => by cases h⟩
theorem crootRoots_holds : Rows.CrootRootsSaid :=
  OpenClaim.holds_of_wide 3 Tryz.f3 rfl rfl rfl rfl rfl rfl rfl ⟨rfl, rfl, rfl, rfl, rfl⟩ rfl rfl rfl rfl rfl (by kernel_rfl) Tryz.func3 (by kernel_rfl)
    (of_decide_eq_true (by kernel_rfl)) (by unfold Func.isWrapper; first | (rw [if_pos (by decide +kernel)]; kernel_rfl) | (rw [if_neg (by decide +kernel)]; exact ⟨rfl, rfl⟩))
    (fun os started H enc _ => crootRoots_lifted os started H enc)
/-- the tied card -/
theorem crootRoots_card_holds : Rows.CrootRootsCardSaid :=
  Claim7.holds_tied_plain_at .later [] [.data] true (true, "119a6e49ba69f3933bf9ea3e4fa500d2367aadeacfe84f0ccef0d37f8656c4ef") false
    crootRoots_holds (fun _ h => by cases h) (by kernel_rfl) (fun _ h => by cases h) crootRoots_row_tie rfl ⟨rfl, rfl⟩ (by kernel_rfl) rfl
    (fun f fn hf hfn => by
      obtain rfl : f = 3 := Option.some.inj ((show Tryz.prog.funcNamed "cutplane/cutplanelaw21.CrootRoots" = some 3 by kernel_rfl).symm.trans hf) |>.symm
      obtain rfl : fn = Tryz.f3 := (Option.some.inj (Tryz.func3.symm.trans hfn)).symm
      exact ⟨by kernel_rfl, fun j t ht => by
        rw [Tryz.params3] at ht
        have h3 : t = 22 ∨ t = 23 ∨ t = 26 := by
          match j, ht with
          | 0, ht => simp at ht; subst ht; simp
          | 1, ht => simp at ht; subst ht; simp
          | 2, ht => simp at ht; subst ht; simp
          | j + 3, ht => simp at ht
        rcases h3 with rfl | rfl | rfl
        · exact (show Tryz.prog.wantsStandIn 22 = false by kernel_rfl)
        · exact (show Tryz.prog.wantsStandIn 23 = false by kernel_rfl)
        · exact (show Tryz.prog.wantsStandIn 26 = false by kernel_rfl)⟩)
    (by kernel_rfl)
end Go.Proofs.YtogikmlfkhofoaaGreatDoor
