/- The base of a seat: what is known of the world; the table of what is known of the functions; math/bits. -/
import Derived.Test.YtnhbdcnnanfacaaDoorAIfun
import Derived.Test.YtnhbdcnnanfacaaDoorProg
import Derived.Lib.Strings
import Derived.Lib.Slices
import Derived.Lib.Small
import Derived.Lib.Walk
import Derived.Lib.BitFns
import Derived.Lib.TrailingZeros
namespace Go.AI
open Go Go.RowKit Go.Proofs
set_option linter.unusedVariables false

/-- the table of math/bits lies where it was laid -/
def Inv (w : World) : Prop := ∀ j, j < 32 → w.cell? ⟨0, j, none⟩ = some (.int .u8 (Lib.deBruijn32tab.getD j 0))

theorem Inv_grow (w w' : World) (h : Inv w) (hg : Grow w w') : Inv w' := fun j hj => by
  have h1 := h j hj
  have hlt : 0 < w.heap.size := by
    rcases Nat.lt_or_ge 0 w.heap.size with h2 | h2
    · exact h2
    · simp [World.cell?, Array.getElem?_eq_none h2] at h1
  rw [← h1]
  simp only [World.cell?, hg.below.block _ hlt]

theorem mixedP : Tryd.prog.follows .mixedOrders = true := by kernel_rfl

/-- a table of what is known of the functions -/
def look : List (Nat × (List AV → Option Spec)) → Nat → List AV → Option Spec
  | [], _, _ => none
  | (g, s) :: t, f, args => if f = g then s args else look t f args

theorem look_nil : PhiOk Tryd.prog Inv (look []) := fun f args s h => by simp [look] at h

theorem look_cons {t : List (Nat × (List AV → Option Spec))} {g : Nat} {S : List AV → Option Spec} (ht : PhiOk Tryd.prog Inv (look t))
    (hg : ∀ args s, S args = some s → andO s.pre True → Contract Tryd.prog Inv g args s.res) : PhiOk Tryd.prog Inv (look ((g, S) :: t)) := fun f args s h => by
  simp only [look] at h
  split at h
  · rename_i e; subst e; exact hg args s h
  · exact ht f args s h

theorem contract_num1 {f : Nat} {k k' : IntKind} {x y : Int} (he : Enters Tryd.prog f)
    (hc : ∀ w, Inv w → k.min ≤ x ∧ x ≤ k.max → (k'.min ≤ y ∧ y ≤ k'.max) ∧ Calls Tryd.prog f #[.int k x] w fun e w' => e = .returned (.int k' y) ∧ w' = w) :
    Contract Tryd.prog Inv f [.num k x] (.num k' y) := by
  refine ⟨he, fun w cargs β hI hlt hV => ?_⟩
  match cargs, hV with
  | [v], hV =>
    simp only [Vs, V] at hV
    obtain ⟨⟨rfl, hr⟩, _⟩ := hV
    obtain ⟨hy, hcc⟩ := hc w hI hr
    refine hcc.mono ?_
    rintro e w' ⟨rfl, rfl⟩
    exact ⟨_, rfl, Grow.refl _, by simp only [V]; exact ⟨trivial, hy⟩⟩
  | [], hV => simp only [Vs] at hV
  | _ :: _ :: _, hV => simp [Vs] at hV

set_option maxHeartbeats 4000000 in
set_option maxRecDepth 100000 in
theorem bits_Len32 (x : Int) (w : World) (h0 : 0 ≤ x) (h1 : x ≤ 4294967295) :
    Calls Tryd.prog 103 #[.int .u32 x] w fun e w' => e = .returned (.int .i64 (Lib.bitLen x.toNat)) ∧ w' = w := by
  rcases Int.lt_or_le x 65536 with c1 | c1
  · rcases Int.lt_or_le x 256 with c2 | c2
    · have k1 : x ≤ 255 := by omega
      go_enter Tryd.func103, Tryd.ntmps103
      go_wp2
      go_ret
      refine ⟨congrArg Ending.returned (congrArg (Value.int IntKind.i64) ?_), rfl⟩
      rw [Lib.len8_of x (by omega) (by omega)]
      have l := Lib.bitLen_le8' x (by omega) (by omega)
      unfold wrap64
      omega
    · have k1 : x / 256 ≤ 255 := by omega
      have k2 : 0 ≤ x / 256 := by omega
      go_enter Tryd.func103, Tryd.ntmps103
      go_wp2
      go_ret
      refine ⟨congrArg Ending.returned (congrArg (Value.int IntKind.i64) ?_), rfl⟩
      rw [Lib.len8_of (x / 256) (by omega) (by omega)]
      have e : (x / 256).toNat = x.toNat / 256 := by omega
      have l := Lib.bitLen_le8' (x / 256) (by omega) (by omega)
      have s := Lib.bitLen_shift8 x.toNat (by omega) (by omega)
      rw [e] at l ⊢
      unfold wrap64
      omega
  · rcases Int.lt_or_le (x / 65536) 256 with c2 | c2
    · have k1 : x / 65536 ≤ 255 := by omega
      have k2 : 0 ≤ x / 65536 := by omega
      go_enter Tryd.func103, Tryd.ntmps103
      go_wp2
      go_ret
      refine ⟨congrArg Ending.returned (congrArg (Value.int IntKind.i64) ?_), rfl⟩
      rw [Lib.len8_of (x / 65536) (by omega) (by omega)]
      have e : (x / 65536).toNat = x.toNat / 65536 := by omega
      have l := Lib.bitLen_le8' (x / 65536) (by omega) (by omega)
      have s := Lib.bitLen_shift16 x.toNat (by omega) (by omega)
      rw [e] at l ⊢
      unfold wrap64
      omega
    · have k1 : x / 65536 / 256 ≤ 255 := by omega
      have k2 : 0 ≤ x / 65536 / 256 := by omega
      go_enter Tryd.func103, Tryd.ntmps103
      go_wp2
      go_ret
      refine ⟨congrArg Ending.returned (congrArg (Value.int IntKind.i64) ?_), rfl⟩
      rw [Lib.len8_of (x / 65536 / 256) (by omega) (by omega)]
      have e : (x / 65536 / 256).toNat = x.toNat / 16777216 := by omega
      have l := Lib.bitLen_le8' (x / 65536 / 256) (by omega) (by omega)
      have s := Lib.bitLen_shift24 x.toNat (by omega) (by omega)
      rw [e] at l ⊢
      unfold wrap64
      omega

theorem wrap_u32' (n : Int) : IntKind.u32.wrap n = n % 4294967296 := by simp [IntKind.wrap, IntKind.signed, IntKind.bits]

theorem bits_and_u32_nat (a b : Nat) (ha : a < 4294967296) (hb : b < 4294967296) : bits .and .u32 (a : Int) (b : Int) = ((a &&& b : Nat) : Int) := by
  have hx : a &&& b < 2 ^ 32 := Nat.and_lt_two_pow _ (by omega)
  have h1 : (BitVec.ofInt 32 (a : Int)).toNat = a := by
    rw [BitVec.ofInt_natCast, BitVec.toNat_ofNat]; exact Nat.mod_eq_of_lt (by omega)
  have h2 : (BitVec.ofInt 32 (b : Int)).toNat = b := by
    rw [BitVec.ofInt_natCast, BitVec.toNat_ofNat]; exact Nat.mod_eq_of_lt (by omega)
  show IntKind.u32.wrap ((BitVec.ofInt 32 (a : Int) &&& BitVec.ofInt 32 (b : Int)).toNat : Int) = _
  rw [BitVec.toNat_and, h1, h2, wrap_u32']
  omega

set_option maxHeartbeats 1000000 in
theorem tz32_core (x k idx : Nat) (w : World) (hx0 : ((x : Int) == 0) = false)
    (key : bits BinOp.and IntKind.u32 (x : Int) (-(x : Int) % 4294967296) * 125613361 % 4294967296 / 134217728 = (idx : Int))
    (hi : idx < 32) (hk : k < 32) (hcell : w.cell? ⟨0, idx, none⟩ = some (.int .u8 k)) :
    Calls Tryd.prog 91 #[.int .u32 x] w fun e w' => e = .returned (.int .i64 k) ∧ w' = w := by
  go_enter Tryd.func91, Tryd.ntmps91
  go_wp2_with (simp only [key])
  go_ret
  exact ⟨rfl, rfl⟩

theorem tz32_key (x a : Nat) (hx : x < 4294967296) (hx0 : x ≠ 0) (hlow : x &&& (4294967296 - x) = a) :
    bits BinOp.and IntKind.u32 (x : Int) (-(x : Int) % 4294967296) * 125613361 % 4294967296 / 134217728 = ((a * 125613361 % 4294967296 / 134217728 : Nat) : Int) := by
  have e1 : -(x : Int) % 4294967296 = ((4294967296 - x : Nat) : Int) := by omega
  rw [e1, bits_and_u32_nat x _ hx (by omega), hlow]
  omega

theorem bits_TrailingZeros32 (x : Nat) (hx : x < 4294967296) (hx0 : x ≠ 0) (w : World) (hT : Inv w) :
    Calls Tryd.prog 91 #[.int .u32 x] w fun e w' => e = .returned (.int .i64 (Lib.ctz 32 x)) ∧ w' = w := by
  obtain ⟨hlow, hk⟩ := Lib.lowest_bit 32 x hx0 hx
  obtain ⟨hi, htab⟩ := Lib.deBruijn32_at _ hk
  have hcell := hT _ hi
  rw [htab] at hcell
  exact tz32_core x _ _ w (by simp; omega) (tz32_key x _ hx hx0 hlow) hi hk hcell

/-- math/bits.Len32 -/
def sLen32 : List AV → Option Spec
  | [.num .u32 x] => some ⟨none, .num .i64 (Lib.bitLen x.toNat)⟩
  | _ => none
/-- math/bits.TrailingZeros32, of what is not nought -/
def sTz32 : List AV → Option Spec
  | [.num .u32 x] => some ⟨some (0 < x), .num .i64 (Lib.ctz 32 x.toNat)⟩
  | _ => none

theorem okLen32 (args : List AV) (s : Spec) (h : sLen32 args = some s) (hp : andO s.pre True) : Contract Tryd.prog Inv 103 args s.res := by
  unfold sLen32 at h
  split at h
  · cases h
    refine contract_num1 (fun cs w => Tryd.call103 cs w) fun w hI hr => ?_
    simp only [IntKind.min, IntKind.max, IntKind.bits, IntKind.signed] at hr
    rename_i x
    have hr' : 0 ≤ x ∧ x ≤ 4294967295 := by simpa using hr
    have := Lib.bitLen_le x.toNat 32 (by omega) (by omega)
    refine ⟨?_, bits_Len32 x w hr'.1 hr'.2⟩
    simp [IntKind.min, IntKind.max, IntKind.bits, IntKind.signed]
    omega
  · cases h

theorem okTz32 (args : List AV) (s : Spec) (h : sTz32 args = some s) (hp : andO s.pre True) : Contract Tryd.prog Inv 91 args s.res := by
  unfold sTz32 at h
  split at h
  · cases h
    rename_i x
    refine contract_num1 (fun cs w => Tryd.call91 cs w) fun w hI hr => ?_
    simp only [IntKind.min, IntKind.max, IntKind.bits, IntKind.signed] at hr
    have hr' : 0 ≤ x ∧ x ≤ 4294967295 := by simpa using hr
    have h0 : 0 < x := hp.1
    have ht := bits_TrailingZeros32 x.toNat (by omega) (by omega) w hI
    obtain ⟨-, hk⟩ := Lib.lowest_bit 32 x.toNat (by omega) (by omega)
    rw [show ((x.toNat : Nat) : Int) = x by omega] at ht
    refine ⟨?_, ht⟩
    simp [IntKind.min, IntKind.max, IntKind.bits, IntKind.signed]
    omega
  · cases h

end Go.AI
