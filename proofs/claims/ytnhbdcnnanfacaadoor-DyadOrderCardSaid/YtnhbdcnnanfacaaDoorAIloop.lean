/- Contracts by tables: the loops of a function, one after the other. -/
import Derived.Test.YtnhbdcnnanfacaaDoorAIbase
namespace Go.AI
open Go Go.RowKit Go.Proofs
set_option linter.unusedVariables false

def bodies : Code → List Code
  | .seq a b => bodies a ++ bodies b
  | .cond _ a b => bodies a ++ bodies b
  | .block _ a => bodies a
  | .loop a => a :: bodies a
  | _ => []

def bodyOf (fn : Func) : Code := fn.body.getD .skip
def bodyN (fn : Func) (i : Nat) : Code := (bodies (bodyOf fn)).getD i .skip

def LoopsAll (P : Program) (Φ : Nat → List AV → Option Spec) (Λ : Nat → Option LoopAnn) (na nt : Nat) : List Code → Prop
  | [] => True
  | b :: l => (match Λ (firstRegion b) with
      | some (.spec keep ls) => LoopOk P Φ Λ na nt keep b ls
      | _ => True) ∧ LoopsAll P Φ Λ na nt l

theorem LoopsAll.append {P : Program} {Φ : Nat → List AV → Option Spec} {Λ : Nat → Option LoopAnn} {na nt : Nat} : ∀ {l l' : List Code}, LoopsAll P Φ Λ na nt (l ++ l') → LoopsAll P Φ Λ na nt l ∧ LoopsAll P Φ Λ na nt l'
  | [], l', h => ⟨trivial, h⟩
  | b :: l, l', h => by
    simp only [List.cons_append, LoopsAll] at h ⊢
    have := LoopsAll.append h.2
    exact ⟨⟨h.1, this.1⟩, this.2⟩

theorem loopsOk_of {P : Program} {Φ : Nat → List AV → Option Spec} {Λ : Nat → Option LoopAnn} {na nt : Nat} : ∀ (c : Code), LoopsAll P Φ Λ na nt (bodies c) → LoopsOk P Φ Λ na nt c := by
  intro c
  induction c with
  | seq a b iha ihb => intro h; have := LoopsAll.append h; exact ⟨iha this.1, ihb this.2⟩
  | cond c a b iha ihb => intro h; have := LoopsAll.append h; exact ⟨iha this.1, ihb this.2⟩
  | block i a ih => intro h; exact ih h
  | loop a ih =>
    intro h
    refine ⟨ih h.2, fun keep ls hl => ?_⟩
    have := h.1
    rw [hl] at this
    exact this
  | _ => intro _; trivial

def lam : List (Nat × LoopAnn) → Nat → Option LoopAnn
  | [], _ => none
  | (i, a) :: l, j => if i = j then some a else lam l j

def saneF (fn : Func) : Bool := fn.body.isSome && !(fn.name == "runtime.NumGoroutine")

section
variable {P : Program} {Φ : Nat → List AV → Option Spec} {Λ : Nat → Option LoopAnn} {na nt : Nat} {fn : Func}
theorem loops0 (h : bodies (bodyOf fn) = []) : LoopsAll P Φ Λ na nt (bodies (bodyOf fn)) := by rw [h]; trivial
theorem loops1 {keep : List (Nat × Keep)} {ls : List AV → Option LR} (h : bodies (bodyOf fn) = [bodyN fn 0]) (hΛ : Λ (firstRegion (bodyN fn 0)) = some (.spec keep ls)) (hl : LoopOk P Φ Λ na nt keep (bodyN fn 0) ls) :
    LoopsAll P Φ Λ na nt (bodies (bodyOf fn)) := by
  rw [h]
  simp only [LoopsAll, hΛ]
  exact ⟨hl, trivial⟩
theorem loops1u {k : Nat} (h : bodies (bodyOf fn) = [bodyN fn 0]) (hΛ : Λ (firstRegion (bodyN fn 0)) = some (.unroll k)) : LoopsAll P Φ Λ na nt (bodies (bodyOf fn)) := by
  rw [h]
  simp only [LoopsAll, hΛ]
  exact ⟨trivial, trivial⟩
theorem loops2 {keep keep' : List (Nat × Keep)} {ls ls' : List AV → Option LR} (h : bodies (bodyOf fn) = [bodyN fn 0, bodyN fn 1]) (hΛ : Λ (firstRegion (bodyN fn 0)) = some (.spec keep ls))
    (hl : LoopOk P Φ Λ na nt keep (bodyN fn 0) ls) (hΛ' : Λ (firstRegion (bodyN fn 1)) = some (.spec keep' ls')) (hl' : LoopOk P Φ Λ na nt keep' (bodyN fn 1) ls') : LoopsAll P Φ Λ na nt (bodies (bodyOf fn)) := by
  rw [h]
  simp only [LoopsAll, hΛ, hΛ']
  exact ⟨hl, hl', trivial⟩
end

theorem contract_at {t : List (Nat × (List AV → Option Spec))} {f : Nat} {fn : Func} {args : List AV} {res : AV} (alias : Bool) (nt : Nat) (Λ : Nat → Option LoopAnn) (ht : PhiOk Tryd.prog Inv (look t))
    (hfn : Tryd.prog.funcs[f]? = some fn) (hs : saneF fn = true) (hnt : args.length + (fn.ntmps - args.length) = nt)
    (hl : LoopsAll Tryd.prog (look t) Λ args.length nt (bodies (bodyOf fn)))
    (h : AV.oks args → evF Tryd.prog (look t) Λ alias fn args (fun r => r = res)) : Contract Tryd.prog Inv f args res := by
  unfold saneF at hs
  cases hb : fn.body with
  | none => rw [hb] at hs; cases hs
  | some c =>
    rw [hb] at hs
    have e : bodyOf fn = c := by unfold bodyOf; rw [hb]; rfl
    rw [e] at hl
    exact contract_of mixedP ht Inv_grow hfn hb (by simpa using hs) hnt (loopsOk_of c hl) h

theorem contract0 {t : List (Nat × (List AV → Option Spec))} {f : Nat} {fn : Func} {args : List AV} {res : AV} (alias : Bool) (ht : PhiOk Tryd.prog Inv (look t))
    (hfn : Tryd.prog.funcs[f]? = some fn) (hs : saneF fn = true) (hl : bodies (bodyOf fn) = [])
    (h : AV.oks args → evF Tryd.prog (look t) (lam []) alias fn args (fun r => r = res)) : Contract Tryd.prog Inv f args res :=
  contract_at alias _ (lam []) ht hfn hs rfl (loops0 hl) h

/-- a round that is the last one -/
theorem iterN_last {P : Program} {Φ : Nat → List AV → Option Spec} {Λ : Nat → Option LoopAnn} {na nt : Nat} {keep : List (Nat × Keep)} {body : Code} {vals : List AV} {K : Exit → List AV → Prop}
    (h : evIter P Φ Λ na nt keep body vals fun e vals' => match e with
      | .normal => False
      | e => K e vals') : ∃ n, iterN P Φ Λ na nt keep body n vals K := ⟨1, h⟩
/-- a round with others behind it -/
theorem iterN_next {P : Program} {Φ : Nat → List AV → Option Spec} {Λ : Nat → Option LoopAnn} {na nt : Nat} {keep : List (Nat × Keep)} {body : Code} {vals : List AV} {K : Exit → List AV → Prop} (n : Nat)
    (h : evIter P Φ Λ na nt keep body vals fun e vals' => match e with
      | .normal => iterN P Φ Λ na nt keep body n vals' K
      | e => K e vals') : ∃ n, iterN P Φ Λ na nt keep body n vals K := ⟨n + 1, h⟩

/-- numbers -/
theorem wrap_i64 {n : Int} (h0 : -9223372036854775808 ≤ n) (h1 : n < 9223372036854775808) : IntKind.i64.wrap n = n := by
  simp [IntKind.wrap, IntKind.signed, IntKind.bits]
  omega
theorem wrap_u64 (n : Int) : IntKind.u64.wrap n = n % 18446744073709551616 := by simp [IntKind.wrap, IntKind.signed, IntKind.bits]
theorem wrap_u32 (n : Int) : IntKind.u32.wrap n = n % 4294967296 := by simp [IntKind.wrap, IntKind.signed, IntKind.bits]

theorem cond_t {b : Bool} {p q : Prop} (h : b = true) (hp : p) : cond b p q := by subst h; exact hp
theorem cond_f {b : Bool} {p q : Prop} (h : b = false) (hq : q) : cond b p q := by subst h; exact hq
theorem cond_i {b : Bool} {p q : Prop} (h1 : b = true → p) (h2 : b = false → q) : cond b p q := by
  cases b
  · exact h2 rfl
  · exact h1 rfl

end Go.AI
