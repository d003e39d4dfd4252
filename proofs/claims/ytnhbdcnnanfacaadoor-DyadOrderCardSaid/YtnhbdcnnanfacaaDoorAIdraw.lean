/- Regions that draw their order: what the text's order gives, every order gives. -/
import Derived.Test.YtnhbdcnnanfacaaDoorAIreg
namespace Go.AI
open Go Go.RowKit
set_option linter.unusedVariables false
set_option linter.unusedSimpArgs false

section
variable {P : Program} {Inv : World → Prop} {na : Nat} {β0 : Nat → Nat → Prop} {w0 : World} {σ : St} {β : Nat → Nat → Prop} {a : Act} {w : World} {Φ : Nat → List AV → Option Spec} {ops : Array Oper}

def lookBox (ops : Array Oper) (lim : Nat) (σ : St) (o : Oper) : Nat → Box := if isStore o.op then σ.box else mask (sees lim ops o) σ.box

/-- the operation itself -/
def Does (P : Program) (Φ : Nat → List AV → Option Spec) (ops : Array Oper) (lim : Nat) (σ : St) (x : Nat × Oper) (σ' : St) : Prop :=
  ∃ e, eff P Φ true σ.eval (lookBox ops lim σ x.2) x.1 x.2 = some e ∧ andO e.pre True ∧ σ' = σ.apply x.2.dst e

/-- what a guard's value says: does the operation run? -/
def Goes (v : AV) (want go : Bool) : Prop := (∃ b, v = .bool b ∧ go = (b == want)) ∨ (v = .tup [] ∧ go = false)

/-- the operation as its guard lets it -/
def StepR (P : Program) (Φ : Nat → List AV → Option Spec) (ops : Array Oper) (lim : Nat) (σ : St) (x : Nat × Oper) (σ' : St) : Prop :=
  match x.2.guard with
  | none => Does P Φ ops lim σ x σ'
  | some (j, want) => ∃ d b, (ops[j]?).bind (·.dst) = some d ∧ Goes (σ.tmps.getD d .junk) want b ∧ (if b = true then Does P Φ ops lim σ x σ' else σ' = σ.put x.2.dst (.tup []))

def Runs (P : Program) (Φ : Nat → List AV → Option Spec) (ops : Array Oper) (lim : Nat) : List (Nat × Oper) → St → St → Prop
  | [], σ, σ' => σ' = σ
  | x :: L, σ, σ' => ∃ σ1, StepR P Φ ops lim σ x σ1 ∧ Runs P Φ ops lim L σ1 σ'

theorem runs_append {lim : Nat} : ∀ (A B : List (Nat × Oper)) (σ σ' : St), Runs P Φ ops lim (A ++ B) σ σ' ↔ ∃ σ1, Runs P Φ ops lim A σ σ1 ∧ Runs P Φ ops lim B σ1 σ'
  | [], B, σ, σ' => by simp [Runs]
  | x :: A, B, σ, σ' => by
    simp only [List.cons_append, Runs, runs_append A B]
    constructor
    · rintro ⟨σ1, h1, σ2, h2, h3⟩; exact ⟨σ2, ⟨σ1, h1, h2⟩, h3⟩
    · rintro ⟨σ2, ⟨σ1, h1, h2⟩, h3⟩; exact ⟨σ1, h1, σ2, h2, h3⟩

theorem put_self {σ : St} {d : Nat} {b : Bool} (hd : σ.tmps.getD d .junk = .bool b) : σ.put (some d) (.bool b) = σ := by
  have hs : σ.tmps[d]? = some (.bool b) := by
    cases hc : σ.tmps[d]? with
    | none => simp [List.getD, hc] at hd
    | some c => simp [List.getD, hc] at hd; rw [hd]
  have hlt : d < σ.tmps.length := (List.getElem?_eq_some_iff.1 hs).1
  have : σ.tmps.set d (.bool b) = σ.tmps := by
    apply List.ext_getElem?
    intro j
    rw [List.getElem?_set]
    split
    · rename_i e; subst e; simp [hlt]
      have := List.getElem?_eq_some_iff.1 hs
      exact this.2.symm
    · rfl
  show ({ σ with tmps := σ.tmps.set d (.bool b) } : St) = σ
  rw [this]

theorem does_of_stepK {lim : Nat} {x : Nat × Oper} {k : St → Prop} (h : stepK P Φ true (sees lim ops x.2) σ x k) : ∃ σ', Does P Φ ops lim σ x σ' ∧ k σ' := by
  unfold stepK at h
  split at h
  · rename_i e he
    obtain ⟨h1, h2⟩ := andO_split h
    refine ⟨_, ⟨e, ?_, h1, rfl⟩, stepK_inst (k := fun e => k (σ.apply x.2.dst e)) h2⟩
    have : (if true && !isStore x.2.op then mask (sees lim ops x.2) σ.box else σ.box) = lookBox ops lim σ x.2 := by
      unfold lookBox
      cases isStore x.2.op <;> rfl
    rw [← this]
    exact he
  · exact h.elim

theorem runs_of_evR {lim : Nat} {K : St → Prop} : ∀ (L : List (Nat × Oper)) (σ : St), evR P Φ true lim ops L σ K → ∃ σ', Runs P Φ ops lim L σ σ' ∧ K σ'
  | [], σ, h => ⟨σ, rfl, h⟩
  | x :: L, σ, h => by
    simp only [evR] at h
    split at h
    · rename_i hg
      obtain ⟨σ1, h1, h2⟩ := does_of_stepK h
      obtain ⟨σ2, h3, h4⟩ := runs_of_evR L σ1 h2
      exact ⟨σ2, ⟨σ1, by unfold StepR; rw [hg]; exact h1, h3⟩, h4⟩
    · rename_i j want hg
      split at h
      · exact h.elim
      · rename_i d hj
        split at h
        · rename_i b hd
          have hput := put_self hd
          have take : stepK P Φ true (sees lim ops x.2) σ x (fun σ' => evR P Φ true lim ops L σ' K) → b = want → ∃ σ', Runs P Φ ops lim (x :: L) σ σ' ∧ K σ' := by
            intro hs hb
            obtain ⟨σ1, h1, h2⟩ := does_of_stepK hs
            obtain ⟨σ2, h3, h4⟩ := runs_of_evR L σ1 h2
            refine ⟨σ2, ⟨σ1, ?_, h3⟩, h4⟩
            unfold StepR
            rw [hg]
            exact ⟨d, true, hj, .inl ⟨b, hd, by simp [hb]⟩, by rw [if_pos rfl]; exact h1⟩
          have pass : evR P Φ true lim ops L (σ.put x.2.dst (.tup [])) K → b ≠ want → ∃ σ', Runs P Φ ops lim (x :: L) σ σ' ∧ K σ' := by
            intro hs hb
            obtain ⟨σ2, h3, h4⟩ := runs_of_evR L _ hs
            refine ⟨σ2, ⟨_, ?_, h3⟩, h4⟩
            unfold StepR
            rw [hg]
            exact ⟨d, false, hj, .inl ⟨b, hd, by simp [hb]⟩, by rw [if_neg (by simp)]⟩
          cases b <;> simp only [cond_true, cond_false] at h <;> rw [hput] at h <;> cases want <;> simp only [cond_true, cond_false] at h
          · exact take h rfl
          · exact pass h (by simp)
          · exact pass h (by simp)
          · exact take h rfl
        · rename_i hd
          obtain ⟨σ2, h3, h4⟩ := runs_of_evR L _ h
          refine ⟨σ2, ⟨_, ?_, h3⟩, h4⟩
          unfold StepR
          rw [hg]
          exact ⟨d, false, hj, .inr ⟨hd, rfl⟩, by rw [if_neg (by simp)]⟩
        · exact h.elim

/-! two independent operations may change places -/

theorem eval_put {σ : St} {dst : Option Tmp} {v : AV} {x : Operand} (h : ∀ d, dst = some d → x ≠ .tmp d) : (σ.put dst v).eval x = σ.eval x := by
  cases dst with
  | none => rfl
  | some d =>
    cases x with
    | tmp t =>
      have hne : d ≠ t := fun e => h d rfl (e ▸ rfl)
      show (σ.tmps.set d v).getD t .junk = σ.tmps.getD t .junk
      simp [List.getD, List.getElem?_set, hne]
    | _ => rfl

theorem eval_boxes (σ : St) (bs : List Box) (x : Operand) : St.eval { σ with boxes := bs } x = σ.eval x := by cases x <;> rfl

theorem eval_apply {σ : St} {dst : Option Tmp} {e : Eff} {x : Operand} (h : ∀ d, dst = some d → x ≠ .tmp d) : (σ.apply dst e).eval x = σ.eval x := by
  unfold St.apply
  rw [eval_put h, eval_boxes]

theorem tmp_put {σ : St} {dst : Option Tmp} {v : AV} {d : Nat} (h : dst ≠ some d) : (σ.put dst v).tmps.getD d .junk = σ.tmps.getD d .junk := by
  cases dst with
  | none => rfl
  | some t =>
    have hne : t ≠ d := fun e => h (e ▸ rfl)
    show (σ.tmps.set t v).getD d .junk = σ.tmps.getD d .junk
    simp [List.getD, List.getElem?_set, hne]

theorem tmp_apply {σ : St} {dst : Option Tmp} {e : Eff} {d : Nat} (h : dst ≠ some d) : (σ.apply dst e).tmps.getD d .junk = σ.tmps.getD d .junk := by
  unfold St.apply
  rw [tmp_put h]

theorem put_comm {σ : St} {x y : Option Tmp} (u v : AV) (h : ∀ d, x = some d → y ≠ some d) : (σ.put x u).put y v = (σ.put y v).put x u := by
  cases x with
  | none => cases y <;> rfl
  | some d =>
    cases y with
    | none => rfl
    | some t =>
      have hne : d ≠ t := fun e => h d rfl (e ▸ rfl)
      show ({ σ with tmps := (σ.tmps.set d u).set t v } : St) = { σ with tmps := (σ.tmps.set t v).set d u }
      rw [List.set_comm _ _ hne]

theorem put_boxes (σ : St) (x : Option Tmp) (u : AV) (bs : List Box) : St.put { σ with boxes := bs } x u = { σ.put x u with boxes := bs } := by cases x <;> rfl

theorem setBoxes_comm : ∀ (u v : List (Nat × Box)) (bs : List Box), (∀ x ∈ u, ∀ y ∈ v, x.1 ≠ y.1) → setBoxes (setBoxes bs u) v = setBoxes (setBoxes bs v) u
  | [], v, bs, _ => rfl
  | (i, b) :: u, v, bs, h => by
    have one : ∀ (v : List (Nat × Box)) (bs : List Box), (∀ y ∈ v, i ≠ y.1) → setBoxes (bs.set i b) v = (setBoxes bs v).set i b := by
      intro v
      induction v with
      | nil => intro bs _; rfl
      | cons y v ih =>
        intro bs hv
        obtain ⟨j, c⟩ := y
        simp only [setBoxes]
        have hij : i ≠ j := hv (j, c) (by simp)
        rw [List.set_comm _ _ hij, ih _ (fun y hy => hv y (by simp [hy]))]
    simp only [setBoxes]
    rw [setBoxes_comm u v _ (fun x hx y hy => h x (by simp [hx]) y hy), one v bs (fun y hy => h (i, b) (by simp) y hy)]

theorem apply_comm {σ : St} {x y : Option Tmp} {e f : Eff} (h : ∀ d, x = some d → y ≠ some d) (hu : ∀ p ∈ e.upd, ∀ q ∈ f.upd, p.1 ≠ q.1) : (σ.apply x e).apply y f = (σ.apply y f).apply x e := by
  simp only [St.apply, put_boxes, St.boxes_put]
  have := put_comm (σ := σ) e.val f.val h
  rw [setBoxes_comm _ _ _ hu]
  cases x <;> cases y <;> simp_all [St.put]

theorem mask_congr {lim : Nat → Bool} {f g : Nat → Box} (h : ∀ i, lim i = true → f i = g i) : mask lim f = mask lim g := by
  funext i
  unfold mask
  split
  · rename_i hi; exact h i hi
  · rfl

theorem box_apply {σ : St} {dst : Option Tmp} {e : Eff} {j : Nat} (h : ∀ x ∈ e.upd, x.1 ≠ j) : (σ.apply dst e).box j = σ.box j := by
  show List.getD _ _ _ = List.getD _ _ _
  rw [St.boxes_apply, setBoxes_other _ _ _ h]

/-- what the one does hangs not on the other -/
structure Indep (ops : Array Oper) (lim : Nat) (x y : Nat × Oper) : Prop where
  apart : x.2.apart ops y.2 = true
  mem : (isStore x.2.op = true → isMem y.2.op = false) ∧ (isStore y.2.op = true → isMem x.2.op = false)
  lx : lim ≤ x.1
  ly : lim ≤ y.1
  ne : allocates x.2.op = true → allocates y.2.op = true → x.1 ≠ y.1
  seen : (allocates x.2.op = true → x.1 ∉ vis lim ops y.2) ∧ (allocates y.2.op = true → y.1 ∉ vis lim ops x.2)

theorem Indep.symm {lim : Nat} {x y : Nat × Oper} (h : Indep ops lim x y) : Indep ops lim y x := by
  refine ⟨?_, ⟨h.mem.2, h.mem.1⟩, h.ly, h.lx, fun a b e => h.ne b a e.symm, h.seen.2, h.seen.1⟩
  obtain ⟨h1, h2, h3⟩ := Oper.apart_spec h.apart
  unfold Oper.apart
  simp only [Bool.and_eq_true]
  refine ⟨?_, ?_⟩
  · cases hd : y.2.dst with
    | none => rfl
    | some d =>
      simp only [Bool.and_eq_true, Bool.not_eq_true', bne_iff_ne, ne_eq]
      exact ⟨by simpa using h3 d hd, fun e => h2 d e hd⟩
  · cases hd : x.2.dst with
    | none => rfl
    | some d => simpa using h1 d hd

theorem isStore_isMem {op : Op} (h : isStore op = true) : isMem op = true := by
  cases op <;> simp [isStore] at h <;> rfl

theorem alloc_isMem {op : Op} (h : allocates op = true) : isMem op = true := by
  cases op <;> simp [allocates] at h <;> rfl

theorem operand_look {o : Oper} {t : Nat} (h : Operand.tmp t ∈ o.op.operands) : t ∈ o.looksAt ops := by
  simp only [Oper.looksAt, List.mem_append, List.mem_filterMap]
  exact .inl ⟨.tmp t, by simpa using h, rfl⟩

/-- an operation does the same behind an independent one -/
theorem Does.behind {lim : Nat} {x y : Nat × Oper} (hi : Indep ops lim x y) {σ : St} {e : Eff} (he : eff P Φ true σ.eval (lookBox ops lim σ x.2) x.1 x.2 = some e) (σ1 : St) (hσ1 : σ1 = σ.apply x.2.dst e) :
    eff P Φ true σ1.eval (lookBox ops lim σ1 y.2) y.1 y.2 = eff P Φ true σ.eval (lookBox ops lim σ y.2) y.1 y.2 := by
  obtain ⟨h1, h2, h3⟩ := Oper.apart_spec hi.apart
  subst hσ1
  rw [eff_congr (ρ' := σ.eval) fun z hz => eval_apply fun d hd e' => by subst e'; exact h1 d hd (operand_look hz)]
  by_cases hm : isMem y.2.op = true
  · have hxs : isStore x.2.op = false := by
      cases hs : isStore x.2.op with
      | false => rfl
      | true => rw [hi.mem.1 hs] at hm; cases hm
    have hup : ∀ p ∈ e.upd, p.1 = x.1 ∧ allocates x.2.op = true := fun p hp => by
      rcases eff_upd he p hp with h | ⟨h | h, _⟩
      · exact h
      · rw [hxs] at h; cases h
      · cases h
    by_cases hys : isStore y.2.op = true
    · have hxm := hi.mem.2 hys
      have : e.upd = [] := by
        cases hu : e.upd with
        | nil => rfl
        | cons p u =>
          have := (hup p (by rw [hu]; simp)).2
          rw [alloc_isMem this] at hxm; cases hxm
      have hb : (σ.apply x.2.dst e).box = σ.box := by
        funext j
        exact box_apply (by rw [this]; simp)
      unfold lookBox
      rw [hb]
    · unfold lookBox
      rw [if_neg hys, if_neg hys, mask_congr (g := σ.box) fun i hil => box_apply fun p hp e' => by
        obtain ⟨u1, u2⟩ := hup p hp
        have := hi.lx
        unfold sees at hil
        simp only [Bool.or_eq_true, decide_eq_true_eq, List.contains_iff_mem] at hil
        rcases hil with hil | hil
        · omega
        · rw [u1] at e'; rw [← e'] at hil; exact hi.seen.1 u2 hil]
  · exact eff_nomem (by simpa using hm)

theorem StepR.comm {lim : Nat} {x y : Nat × Oper} (hi : Indep ops lim x y) {σ σ1 σ2 : St} (h1 : StepR P Φ ops lim σ x σ1) (h2 : StepR P Φ ops lim σ1 y σ2) :
    ∃ σ1', StepR P Φ ops lim σ y σ1' ∧ StepR P Φ ops lim σ1' x σ2 := by
  obtain ⟨q1, q2, q3⟩ := Oper.apart_spec hi.apart
  obtain ⟨p1, p2, p3⟩ := Oper.apart_spec hi.symm.apart
  -- each: either it does, or it passes
  have form : ∀ {z : Nat × Oper} {s s' : St}, StepR P Φ ops lim s z s' → (∃ e, eff P Φ true s.eval (lookBox ops lim s z.2) z.1 z.2 = some e ∧ andO e.pre True ∧ s' = s.apply z.2.dst e ∧
        (∀ t, (∀ d, d ∈ z.2.looksAt ops → t.tmps.getD d .junk = s.tmps.getD d .junk) → ∀ t', Does P Φ ops lim t z t' → StepR P Φ ops lim t z t')) ∨
      (s' = s.put z.2.dst (.tup []) ∧ ∀ t, (∀ d, d ∈ z.2.looksAt ops → t.tmps.getD d .junk = s.tmps.getD d .junk) → StepR P Φ ops lim t z (t.put z.2.dst (.tup []))) := by
    intro z s s' h
    unfold StepR at h
    split at h
    · rename_i hg
      obtain ⟨e, he, hp, hs⟩ := h
      refine .inl ⟨e, he, hp, hs, fun t _ t' hd => ?_⟩
      unfold StepR
      rw [hg]
      exact hd
    · rename_i j want hg
      obtain ⟨d, b, hj, hd, hif⟩ := h
      have hlook : d ∈ z.2.looksAt ops := by
        simp only [Oper.looksAt, List.mem_append, hg, hj]
        exact .inr (by simp)
      by_cases hb : b = true
      · rw [if_pos hb] at hif
        obtain ⟨e, he, hp, hs⟩ := hif
        refine .inl ⟨e, he, hp, hs, fun t ht t' hdo => ?_⟩
        unfold StepR
        rw [hg]
        exact ⟨d, b, hj, by rw [ht d hlook]; exact hd, by rw [if_pos hb]; exact hdo⟩
      · rw [if_neg hb] at hif
        refine .inr ⟨hif, fun t ht => ?_⟩
        unfold StepR
        rw [hg]
        exact ⟨d, b, hj, by rw [ht d hlook]; exact hd, by rw [if_neg hb]⟩
  have lookX : ∀ (v : AV) (s : St), ∀ d, d ∈ x.2.looksAt ops → (s.put y.2.dst v).tmps.getD d .junk = s.tmps.getD d .junk := fun v s d hd => tmp_put fun e => q3 d e hd
  have lookX' : ∀ (e : Eff) (s : St), ∀ d, d ∈ x.2.looksAt ops → (s.apply y.2.dst e).tmps.getD d .junk = s.tmps.getD d .junk := fun v s d hd => tmp_apply fun e => q3 d e hd
  have lookY : ∀ (v : AV) (s : St), ∀ d, d ∈ y.2.looksAt ops → s.tmps.getD d .junk = (s.put x.2.dst v).tmps.getD d .junk := fun v s d hd => (tmp_put fun e => q1 d e hd).symm
  have lookY' : ∀ (e : Eff) (s : St), ∀ d, d ∈ y.2.looksAt ops → s.tmps.getD d .junk = (s.apply x.2.dst e).tmps.getD d .junk := fun v s d hd => (tmp_apply fun e => q1 d e hd).symm
  have putApply : ∀ {z : Nat × Oper} {d : Option Tmp} {s : St}, (∀ t, z.2.dst = some t → d ≠ some t) → ∀ e : Eff, (s.apply z.2.dst e).put d (.tup []) = (s.put d (.tup [])).apply z.2.dst e := by
    intro z d s hne e
    have h2 : St.put { s with boxes := setBoxes s.boxes e.upd } d (.tup []) = { s.put d (.tup []) with boxes := setBoxes (s.put d (.tup [])).boxes e.upd } := by cases d <;> rfl
    simp only [St.apply]
    rw [put_comm _ _ hne, h2]
  have effPut : ∀ {z z' : Nat × Oper} {s : St}, (∀ t, z'.2.dst = some t → t ∉ z.2.looksAt ops) → eff P Φ true (s.put z'.2.dst (.tup [])).eval (lookBox ops lim (s.put z'.2.dst (.tup [])) z.2) z.1 z.2 = eff P Φ true s.eval (lookBox ops lim s z.2) z.1 z.2 := by
    intro z z' s hz
    rw [eff_congr (ρ' := s.eval) fun u hu => eval_put fun d hd e' => by subst e'; exact hz d hd (operand_look hu)]
    unfold lookBox
    rw [St.box_put]
  rcases form h1 with ⟨e, he, hp, hs, hk⟩ | ⟨hs, hk⟩
  · rcases form h2 with ⟨f, hf, hfp, hfs, hfk⟩ | ⟨hfs, hfk⟩
    · have hf' : eff P Φ true σ.eval (lookBox ops lim σ y.2) y.1 y.2 = some f := by rw [← Does.behind hi he σ1 hs]; exact hf
      refine ⟨σ.apply y.2.dst f, hfk σ (by rw [hs]; exact lookY' e σ) _ ⟨f, hf', hfp, rfl⟩, hk _ (lookX' f σ) _ ⟨e, ?_, hp, ?_⟩⟩
      · rw [Does.behind hi.symm hf' _ rfl]; exact he
      · rw [hfs, hs]
        refine apply_comm q2 fun p hpm q hqm e' => ?_
        rcases eff_upd he p hpm with ⟨r1, r2⟩ | ⟨r1 | r1, r2⟩
        · rcases eff_upd hf' q hqm with ⟨t1, t2⟩ | ⟨t1 | t1, t2⟩
          · exact hi.ne r2 t2 (by omega)
          · have := hi.mem.2 t1
            rw [alloc_isMem r2] at this; cases this
          · cases t1
        · have hym := hi.mem.1 r1
          rcases eff_upd hf' q hqm with ⟨t1, t2⟩ | ⟨t1 | t1, t2⟩
          · rw [alloc_isMem t2] at hym; cases hym
          · rw [isStore_isMem t1] at hym; cases hym
          · cases t1
        · cases r1
    · refine ⟨σ.put y.2.dst (.tup []), hfk σ (by rw [hs]; exact lookY' e σ), hk _ (lookX (.tup []) σ) _ ⟨e, ?_, hp, ?_⟩⟩
      · rw [effPut q3]; exact he
      · rw [hfs, hs]
        exact putApply q2 e
  · rcases form h2 with ⟨f, hf, hfp, hfs, hfk⟩ | ⟨hfs, hfk⟩
    · have hf' : eff P Φ true σ.eval (lookBox ops lim σ y.2) y.1 y.2 = some f := by rw [hs, effPut q1] at hf; exact hf
      refine ⟨σ.apply y.2.dst f, hfk σ (by rw [hs]; exact lookY (.tup []) σ) _ ⟨f, hf', hfp, rfl⟩, ?_⟩
      have := hk (σ.apply y.2.dst f) (lookX' f σ)
      rw [putApply p2 f] at this
      rw [hfs, hs]
      exact this
    · refine ⟨σ.put y.2.dst (.tup []), hfk σ (by rw [hs]; exact lookY (.tup []) σ), ?_⟩
      have := hk (σ.put y.2.dst (.tup [])) (lookX (.tup []) σ)
      rw [put_comm _ _ p2] at this
      rw [hfs, hs]
      exact this

/-- an operation that hangs on none ahead of it may come first -/
theorem Runs.first {lim : Nat} {x : Nat × Oper} {B : List (Nat × Oper)} : ∀ (A : List (Nat × Oper)) (σ σ' : St), (∀ y ∈ A, Indep ops lim y x) → Runs P Φ ops lim (A ++ x :: B) σ σ' → Runs P Φ ops lim (x :: (A ++ B)) σ σ'
  | [], σ, σ', _, h => h
  | y :: A, σ, σ', hi, ⟨σ1, h1, h2⟩ => by
    obtain ⟨σ2, h3, h4⟩ := Runs.first A σ1 σ' (fun z hz => hi z (by simp [hz])) h2
    obtain ⟨σ1', h5, h6⟩ := StepR.comm (hi y (by simp)) h1 h3
    exact ⟨σ1', h5, σ2, h6, h4⟩

/-! the drawn order -/

/-- what is still to be done: operations with their box numbers and their places, in the text's order -/
structure Todo (ops : Array Oper) (na lim : Nat) (σ : St) (listed : Array Bool) (L : List ((Nat × Oper) × Nat)) : Prop where
  full : ∀ x ∈ L, ops[x.2]? = some x.1.2
  open_ : ∀ i, i < ops.size → (listed.getD i true = false ↔ ∃ x ∈ L, x.2 = i)
  size : listed.size = ops.size
  sorted : L.Pairwise fun x y => x.2 < y.2 ∧ (allocates x.1.2.op = true → allocates y.1.2.op = true → x.1.1 ≠ y.1.1)
  num : ∀ x ∈ L, (number lim ops.toList)[x.2]? = some x.1
  lim : ∀ x ∈ L, lim ≤ x.1.1
  free : ∀ x ∈ L, allocates x.1.2.op = true → Free na σ x.1.1
  shut : ∀ (i : Nat) (o : Oper), ops[i]? = some o → listed.getD i false = true → ∀ e ∈ o.after, Region.binds .any e = true → listed.getD e.on false = true

theorem number_get : ∀ (l : List Oper) (m i : Nat) (x : Nat × Oper), (number m l)[i]? = some x → l[i]? = some x.2 ∧ m ≤ x.1
  | [], m, i, x, h => by simp [number] at h
  | o :: l, m, 0, x, h => by simp [number] at h; subst h; simp
  | o :: l, m, i + 1, x, h => by
    simp only [number, List.getElem?_cons_succ] at h
    obtain ⟨h1, h2⟩ := number_get l _ i x h
    refine ⟨by simpa using h1, ?_⟩
    split at h2 <;> omega

theorem number_lt : ∀ (l : List Oper) (m : Nat) (i j : Nat) (x y : Nat × Oper), i < j → (number m l)[i]? = some x → (number m l)[j]? = some y → allocates x.2.op = true → x.1 < y.1 := by
  intro l
  induction l with
  | nil => intro m i j x y _ h; simp [number] at h
  | cons o l ih =>
    intro m i j x y hij hx hy ha
    obtain ⟨j, rfl⟩ : ∃ j', j = j' + 1 := ⟨j - 1, by omega⟩
    simp only [number, List.getElem?_cons_succ] at hy
    cases i with
    | zero =>
      simp only [number, List.getElem?_cons_zero, Option.some.injEq] at hx
      subst hx
      have := (number_get l _ j y hy).2
      rw [if_pos ha] at this
      simp only at this ⊢
      omega
    | succ i =>
      simp only [number, List.getElem?_cons_succ] at hx
      exact ih _ i j x y (by omega) hx hy ha

theorem vis_num {lim n : Nat} {o : Oper} (h : n ∈ vis lim ops o) : ∃ i z, i ∈ reach ops 12 o ∧ (number lim ops.toList)[i]? = some z ∧ allocates z.2.op = true ∧ z.1 = n := by
  unfold vis at h
  rw [List.mem_filterMap] at h
  obtain ⟨i, hi, hz⟩ := h
  split at hz
  · rename_i z hz'
    split at hz
    · rename_i ha
      cases hz
      exact ⟨i, z, hi, hz', ha, rfl⟩
    · cases hz
  · cases hz

/-- two operations that make boxes, with one number, are one -/
theorem vis_at {lim : Nat} {o : Oper} {y : Nat × Oper} {j : Nat} (hy : (number lim ops.toList)[j]? = some y) (ha : allocates y.2.op = true) (h : y.1 ∈ vis lim ops o) : j ∈ reach ops 12 o := by
  obtain ⟨i, z, hi, hz, haz, hn⟩ := vis_num h
  by_cases c : i = j
  · rw [← c]; exact hi
  · by_cases d : i < j
    · have := number_lt _ _ _ _ _ _ d hz hy haz; omega
    · have := number_lt _ _ _ _ _ _ (show j < i by omega) hy hz ha; omega

theorem mem_reach {f i : Nat} {o : Oper} (h : i ∈ reach ops (f + 1) o) : ∃ e ∈ o.after, Region.binds .any e = true ∧ ∃ z, ops[e.on]? = some z ∧ (i = e.on ∨ i ∈ reach ops f z) := by
  simp only [reach, List.mem_flatMap] at h
  obtain ⟨e, he, hi⟩ := h
  split at hi
  · rename_i hb
    split at hi
    · rename_i z hz
      split at hi
      · exact ⟨e, by simpa using he, hb, z, hz, by simpa using hi⟩
      · simp at hi
    · simp at hi
  · simp at hi

theorem reach_listed {listed : Array Bool} (hs : ∀ (i : Nat) (o : Oper), ops[i]? = some o → listed.getD i false = true → ∀ e ∈ o.after, Region.binds .any e = true → listed.getD e.on false = true) :
    ∀ (f i : Nat) (o : Oper), (∀ e ∈ o.after, Region.binds .any e = true → listed.getD e.on false = true) → i ∈ reach ops f o → listed.getD i false = true
  | 0, i, o, _, h => by simp [reach] at h
  | f + 1, i, o, ho, h => by
    obtain ⟨e, he, hb, z, hz, hi⟩ := mem_reach h
    rcases hi with rfl | hi
    · exact ho e he hb
    · exact reach_listed hs f i z (hs e.on z hz (ho e he hb)) hi

theorem drawOk_spec (h : drawOk ops = true) {j : Nat} {y : Oper} (hj : ops[j]? = some y) :
    (∀ e ∈ y.after, Region.binds .any e = true → e.on < j) ∧ ∀ i x, i < j → ops[i]? = some x → dependent ops x y = true → ∃ e ∈ y.after, Region.binds .any e = true ∧ e.on = i := by
  unfold drawOk at h
  rw [List.all_eq_true] at h
  have hm : ∀ {i : Nat} {x : Oper}, ops[i]? = some x → (x, i) ∈ ops.toList.zipIdx := by
    intro i x hx
    rw [List.mk_mem_zipIdx_iff_getElem?]
    simpa using hx
  have h1 := h (y, j) (hm hj)
  simp only [Bool.and_eq_true] at h1
  refine ⟨fun e he hb => ?_, fun i x hi hx hd => ?_⟩
  · have := Array.all_eq_true_iff_forall_mem.1 h1.1 e he
    simpa [hb] using this
  · have := List.all_eq_true.1 h1.2 (x, i) (hm hx)
    simp only [hi, hd, decide_true, Bool.not_true, Bool.false_or] at this
    obtain ⟨e, he1, he2⟩ := Array.any_eq_true'.1 this
    simp only [Bool.and_eq_true, decide_eq_true_eq] at he2
    exact ⟨e, he1, he2.1, he2.2⟩

theorem reach_lt (hok : drawOk ops = true) : ∀ (f i j : Nat) (o : Oper), ops[j]? = some o → i ∈ reach ops f o → i < j
  | 0, i, j, o, _, h => by simp [reach] at h
  | f + 1, i, j, o, ho, h => by
    obtain ⟨e, he, hb, z, hz, hi⟩ := mem_reach h
    have := (drawOk_spec hok ho).1 e he hb
    rcases hi with rfl | hi
    · exact this
    · exact Nat.lt_trans (reach_lt hok f i e.on z hz hi) this

theorem indep_of {lim : Nat} {x y : Nat × Oper} (h : dependent ops x.2 y.2 = false) (hx : lim ≤ x.1) (hy : lim ≤ y.1) (hne : allocates x.2.op = true → allocates y.2.op = true → x.1 ≠ y.1)
    (hse : (allocates x.2.op = true → x.1 ∉ vis lim ops y.2) ∧ (allocates y.2.op = true → y.1 ∉ vis lim ops x.2)) : Indep ops lim x y := by
  unfold dependent at h
  simp only [Bool.or_eq_false_iff, Bool.not_eq_false', Bool.and_eq_false_iff] at h
  obtain ⟨⟨h1, h2⟩, h3⟩ := h
  exact ⟨h1, ⟨fun e => by rcases h2 with h | h <;> simp_all, fun e => by rcases h3 with h | h <;> simp_all⟩, hx, hy, hne, hse⟩

theorem draw_any (hok : drawOk ops = true) (hΦ : PhiOk P Inv Φ) (hGrow : ∀ w w', Inv w → Grow w w' → Inv w') (hInv0 : Inv w0) {Q : Exit → Act → World → Prop} {K : St → Prop}
    (hK : ∀ σ β a w, R na β0 w0 σ β a w → K σ → Q .normal a w) (lim : Nat) : ∀ (fuel : Nat) (L : List ((Nat × Oper) × Nat)) (listed : Array Bool) (σ σf : St) (β : Nat → Nat → Prop) (a : Act) (w : World), L.length ≤ fuel →
    Todo ops na lim σ listed L → R na β0 w0 σ β a w → Runs P Φ ops lim (L.map (·.1)) σ σf → K σf → wpAny P .any ops Q fuel listed a w := by
  have noneReady : ∀ (L : List ((Nat × Oper) × Nat)) (listed : Array Bool) (σ : St), Todo ops na lim σ listed L → Region.ready .any ops listed = [] → L = [] := by
    intro L listed σ ht hr
    cases L with
    | nil => rfl
    | cons x L =>
      exfalso
      have hx := ht.full x (by simp)
      have hlt : x.2 < ops.size := (Array.getElem?_eq_some_iff.1 hx).1
      have hmem : x.2 ∈ Region.ready .any ops listed := by
        unfold Region.ready
        rw [List.mem_filter]
        refine ⟨by simpa using hlt, ?_⟩
        rw [(ht.open_ x.2 hlt).2 ⟨x, by simp, rfl⟩, hx]
        simp only [Bool.not_false, Bool.true_and, Option.map_some, Option.getD_some]
        rw [Array.all_eq_true_iff_forall_mem]
        intro e he
        cases hb : Region.binds .any e with
        | false => rfl
        | true =>
          have hon := (drawOk_spec hok hx).1 e he hb
          cases hl : listed.getD e.on false with
          | true => rfl
          | false =>
            exfalso
            have hon' : e.on < ops.size := by omega
            have hlt' : listed.getD e.on true = false := by
              have : e.on < listed.size := by rw [ht.size]; exact hon'
              simp [Array.getD, this] at hl ⊢
              exact hl
            obtain ⟨z, hz, hze⟩ := (ht.open_ e.on hon').1 hlt'
            rcases List.mem_cons.1 hz with rfl | hz
            · omega
            · have := (List.pairwise_cons.1 ht.sorted).1 z hz
              omega
      rw [hr] at hmem
      simp at hmem
  intro fuel
  induction fuel with
  | zero =>
    intro L listed σ σf β a w hL ht hR hrun hk
    have : L = [] := List.eq_nil_of_length_eq_zero (by omega)
    subst this
    have hs : σf = σ := hrun
    subst hs
    refine ⟨?_, hK _ _ _ _ hR hk⟩
    unfold Region.ready
    rw [List.filter_eq_nil_iff]
    intro i hi
    have hi' : i < ops.size := by simpa using hi
    have := ht.open_ i hi'
    cases hl : listed.getD i true with
    | true => simp
    | false => rw [hl] at this; obtain ⟨x, hx, _⟩ := this.1 rfl; simp at hx
  | succ fuel ih =>
    intro L listed σ σf β a w hL ht hR hrun hk
    refine ⟨fun hr => ?_, fun i hi => ?_⟩
    · have := noneReady L listed σ ht hr
      subst this
      have hs : σf = σ := hrun
      subst hs
      exact hK _ _ _ _ hR hk
    · unfold Region.ready at hi
      rw [List.mem_filter] at hi
      obtain ⟨hi1, hi2⟩ := hi
      have hlt : i < ops.size := by simpa using hi1
      simp only [Bool.and_eq_true, Bool.not_eq_true'] at hi2
      obtain ⟨x, hx, hxi⟩ := (ht.open_ i hlt).1 hi2.1
      subst hxi
      have hxo := ht.full x hx
      obtain ⟨A, B, rfl⟩ := List.append_of_mem hx
      have hsrt := List.pairwise_append.1 ht.sorted
      have hedges : ∀ e ∈ x.1.2.after, Region.binds .any e = true → listed.getD e.on false = true := by
        have h2 := hi2.2
        rw [hxo] at h2
        simp only [Option.map_some, Option.getD_some] at h2
        rw [Array.all_eq_true_iff_forall_mem] at h2
        intro e he hb
        have := h2 e he
        simpa [hb] using this
      have hind : ∀ y ∈ A.map (·.1), Indep ops lim y x.1 := by
        intro y hy
        obtain ⟨z, hz, rfl⟩ := List.mem_map.1 hy
        have hzx := hsrt.2.2 z hz x (by simp)
        have hzo := ht.full z (by simp [hz])
        have hzun : listed.getD z.2 false = false := by
          have hzlt : z.2 < ops.size := (Array.getElem?_eq_some_iff.1 hzo).1
          have h2 := (ht.open_ z.2 hzlt).2 ⟨z, by simp [hz], rfl⟩
          have hs : z.2 < listed.size := by rw [ht.size]; exact hzlt
          simp [Array.getD, hs] at h2 ⊢
          exact h2
        refine indep_of ?_ (ht.lim z (by simp [hz])) (ht.lim x (by simp)) hzx.2 ⟨fun ha hm => ?_, fun ha hm => ?_⟩
        rotate_left
        · have h1 := vis_at (ht.num z (by simp [hz])) ha hm
          have h2 := reach_listed ht.shut 12 z.2 x.1.2 hedges h1
          rw [hzun] at h2
          cases h2
        · have h1 := vis_at (ht.num x (by simp)) ha hm
          have h2 := reach_lt hok 12 x.2 z.2 z.1.2 hzo h1
          have h3 := hzx.1
          omega
        cases hd : dependent ops z.1.2 x.1.2 with
        | false => rfl
        | true =>
          exfalso
          obtain ⟨e, he, hb, hon⟩ := (drawOk_spec hok hxo).2 z.2 z.1.2 hzx.1 hzo hd
          have h1 := hedges e he hb
          rw [hon] at h1
          have hzlt : z.2 < ops.size := (Array.getElem?_eq_some_iff.1 hzo).1
          have h2 := (ht.open_ z.2 hzlt).2 ⟨z, by simp [hz], rfl⟩
          have hs : z.2 < listed.size := by rw [ht.size]; exact hzlt
          simp [Array.getD, hs] at h1 h2
          rw [h1] at h2
          cases h2
      have hrun' : Runs P Φ ops lim (x.1 :: ((A ++ B).map (·.1))) σ σf := by
        have : (A ++ x :: B).map (·.1) = A.map (·.1) ++ x.1 :: B.map (·.1) := by simp
        rw [this] at hrun
        have := Runs.first _ _ _ hind hrun
        simpa using this
      obtain ⟨σ1, hstep, hrest⟩ := hrun'
      have hInv : Inv w := hGrow _ _ hInv0 hR.grow
      -- what is left to do behind it
      have hnext : ∀ σ', (∀ j, σ.box j = .unborn → j ≠ x.1.1 ∨ allocates x.1.2.op = false → σ'.box j = .unborn) → σ'.boxes.length = σ.boxes.length → Todo ops na lim σ' (listed.setIfInBounds x.2 true) (A ++ B) := by
        intro σ' hun hlen
        have hmem : ∀ y ∈ A ++ B, y ∈ A ++ x :: B := fun y hy => by
          rcases List.mem_append.1 hy with h | h
          · simp [h]
          · simp [h]
        have hne : ∀ y ∈ A ++ B, y.2 ≠ x.2 ∧ (allocates x.1.2.op = true → allocates y.1.2.op = true → y.1.1 ≠ x.1.1) := fun y hy => by
          rcases List.mem_append.1 hy with h | h
          · have := hsrt.2.2 y h x (by simp)
            exact ⟨by omega, fun a b => this.2 b a⟩
          · have := (List.pairwise_cons.1 hsrt.2.1).1 y h
            exact ⟨by omega, fun a b e => this.2 a b e.symm⟩
        refine ⟨fun y hy => ht.full y (hmem y hy), fun j hj => ?_, by simp [ht.size], ?_, fun y hy => ht.num y (hmem y hy), fun y hy => ht.lim y (hmem y hy), fun y hy hay => ?_, fun j o ho hj e he hb => ?_⟩
        rotate_right
        · have hmono : ∀ m, listed.getD m false = true → (listed.setIfInBounds x.2 true).getD m false = true := by
            intro m hm
            have hml : m < listed.size := by
              by_cases c : m < listed.size
              · exact c
              · simp [Array.getD, c] at hm
            simp [Array.getD, hml] at hm
            simp [Array.getD, hml, Array.getElem_setIfInBounds, hm]
          refine hmono _ ?_
          by_cases e' : j = x.2
          · subst e'
            rw [hxo] at ho
            cases ho
            exact hedges e he hb
          · refine ht.shut j o ho ?_ e he hb
            have hjs : j < listed.size := by
              have := (Array.getElem?_eq_some_iff.1 ho).1
              rw [ht.size]; exact this
            have e'' : x.2 ≠ j := fun h => e' h.symm
            simp [Array.getD, hjs, Array.getElem_setIfInBounds, e''] at hj
            simp [Array.getD, hjs, hj]
        · have hjs : j < listed.size := by rw [ht.size]; exact hj
          by_cases e : j = x.2
          · subst e
            constructor
            · intro h; simp [Array.getD, hjs] at h
            · rintro ⟨y, hy, hyx⟩; exact absurd hyx (hne y hy).1
          · have e' : x.2 ≠ j := fun h => e h.symm
            have hg : (listed.setIfInBounds x.2 true).getD j true = listed.getD j true := by
              simp [Array.getD, hjs, Array.getElem_setIfInBounds, e']
            rw [hg, ht.open_ j hj]
            constructor
            · rintro ⟨y, hy, hyj⟩
              rcases List.mem_append.1 hy with h | h
              · exact ⟨y, by simp [h], hyj⟩
              · rcases List.mem_cons.1 h with rfl | h
                · omega
                · exact ⟨y, by simp [h], hyj⟩
            · rintro ⟨y, hy, hyj⟩; exact ⟨y, hmem y hy, hyj⟩
        · rw [List.pairwise_append]
          exact ⟨hsrt.1, (List.pairwise_cons.1 hsrt.2.1).2, fun y hy z hz => hsrt.2.2 y hy z (by simp [hz])⟩
        · have hf := ht.free y (hmem y hy) hay
          refine ⟨hf.na, by rw [hlen]; exact hf.len, hun _ hf.un ?_⟩
          cases hax : allocates x.1.2.op with
          | false => exact .inr rfl
          | true => exact .inl ((hne y hy).2 hax hay)
      have hlenAB : (A ++ B).length ≤ fuel := by simp at hL ⊢; omega
      have take : ∀ {σ'}, Does P Φ ops lim σ x.1 σ' → Runs P Φ ops lim ((A ++ B).map (·.1)) σ' σf → Region.wanted x.1.2 (yielded ops a.tmps) = true → wpOp P ops Q x.2 (wpAny P .any ops Q fuel (listed.setIfInBounds x.2 true)) a w := by
        rintro σ' ⟨e, he, hp, rfl⟩ hr hw
        have hb : Sub (lookBox ops lim σ x.1.2) σ.box := by
          unfold lookBox
          split
          · exact Sub.refl _
          · exact Sub.mask _ _
        have hs := eff_sound hR hb hInv hΦ he hp (fun ha => ht.free x (by simp) ha)
        unfold wpOp
        rw [hxo]
        simp only
        rw [if_pos hw]
        refine .inl (hs _ _ fun β' a' w' hR' => ih _ _ _ _ β' a' w' hlenAB (hnext _ (fun j hj hor => ?_) (by rw [St.boxes_apply, setBoxes_length])) hR' hr hk)
        rw [box_apply]
        · exact hj
        · intro p hpm e'
          rcases eff_upd he p hpm with ⟨q1, q2⟩ | ⟨_, q2⟩
          · rcases hor with h | h
            · exact h (by rw [← e', q1])
            · rw [h] at q2; cases q2
          · rcases hb p.1 with h | h
            · exact q2 h
            · rw [e', hj] at h; exact q2 (e' ▸ h)
      have pass : Runs P Φ ops lim ((A ++ B).map (·.1)) (σ.put x.1.2.dst (.tup [])) σf → Region.wanted x.1.2 (yielded ops a.tmps) = false → wpOp P ops Q x.2 (wpAny P .any ops Q fuel (listed.setIfInBounds x.2 true)) a w := by
        intro hr hw
        unfold wpOp
        rw [hxo]
        simp only
        rw [if_neg (by simp [hw])]
        exact ih _ _ _ _ β _ w hlenAB (hnext _ (fun j hj _ => by rw [St.box_put]; exact hj) (by rw [St.boxes_put])) (hR.put _ V_undef) hr hk
      unfold StepR at hstep
      split at hstep
      · rename_i hg
        exact take hstep hrest (by simp [Region.wanted, hg])
      · rename_i j want hg
        obtain ⟨d, b, hj, hd, hif⟩ := hstep
        have hw : Region.wanted x.1.2 (yielded ops a.tmps) = b := by
          rcases hd with ⟨b', hd, rfl⟩ | ⟨hd, rfl⟩
          · exact wanted_of (ops := ops) hR hg hj hd
          · exact unwanted_of (ops := ops) hR hg hj hd
        by_cases hb : b = true
        · rw [if_pos hb] at hif
          exact take hif hrest (by rw [hw, hb])
        · rw [if_neg hb] at hif
          rw [hif] at hrest
          exact pass hrest (by rw [hw]; simpa using hb)

theorem number_length : ∀ (l : List Oper) (m : Nat), (number m l).length = l.length
  | [], _ => rfl
  | o :: l, m => by simp [number, number_length l]

theorem number_top : ∀ (l : List Oper) (m i : Nat) (x : Nat × Oper), (number m l)[i]? = some x → allocates x.2.op = true → x.1 < m + countAllocs l
  | [], m, i, x, h, _ => by simp [number] at h
  | o :: l, m, 0, x, h, ha => by simp [number] at h; subst h; simp [countAllocs, ha]; omega
  | o :: l, m, i + 1, x, h, ha => by
    simp only [number, List.getElem?_cons_succ] at h
    have := number_top l _ i x h ha
    simp only [countAllocs]
    split at this <;> rename_i hao <;> simp [hao] <;> omega

/-- a region that draws its order -/
theorem evR_draw (hok : drawOk ops = true) (hm : P.follows .mixedOrders = true) (hΦ : PhiOk P Inv Φ) (hGrow : ∀ w w', Inv w → Grow w w' → Inv w') (hInv0 : Inv w0) {Q : Exit → Act → World → Prop} {K : St → Prop}
    (hK : ∀ σ β a w, R na β0 w0 σ β a w → K σ → Q .normal a w) {lim : Nat} (hR : R na β0 w0 σ β a w) (hrd : Ready na σ lim ops.toList) (h : evR P Φ true lim ops (number lim ops.toList) σ K) (id : Nat) :
    (Code.region id ops true).wp P Q a w := by
  obtain ⟨σf, hrun, hk⟩ := runs_of_evR _ _ h
  have hR' : R na β0 w0 σ β a { w with drawn := w.drawn + 1 } := hR.grown (w' := w.drew) ((Grow.refl w).drew)
  refine wp_region_any hm (draw_any hok hΦ hGrow hInv0 hK lim ops.size (number lim ops.toList).zipIdx _ σ σf β a _ (by simp [number_length]) ⟨fun x hx => ?_, fun i hi => ?_, by simp, ?_, fun x hx => by rw [List.mem_zipIdx_iff_getElem?] at hx; exact hx, fun x hx => ?_, fun x hx ha => ?_, fun i o ho hi => ?_⟩ hR' (by simpa using hrun) hk)
  · rw [List.mem_zipIdx_iff_getElem?] at hx
    have := (number_get _ _ _ _ hx).1
    simpa using this
  · constructor
    · intro _
      have hlt : i < (number lim ops.toList).length := by rw [number_length]; simpa using hi
      exact ⟨((number lim ops.toList)[i], i), by rw [List.mem_zipIdx_iff_getElem?]; simp [hlt], rfl⟩
    · intro _
      simp [Array.getD, hi]
  · rw [List.pairwise_iff_getElem]
    intro i j hi hj hij
    simp only [List.getElem_zipIdx]
    refine ⟨by omega, fun ha _ e => ?_⟩
    have := number_lt ops.toList lim i j _ _ hij (List.getElem?_eq_getElem (by simpa using hi)) (List.getElem?_eq_getElem (by simpa using hj)) ha
    omega
  · rw [List.mem_zipIdx_iff_getElem?] at hx
    exact (number_get _ _ _ _ hx).2
  · rw [List.mem_zipIdx_iff_getElem?] at hx
    have h1 := (number_get _ _ _ _ hx).2
    have h2 := number_top _ _ _ _ hx ha
    exact ⟨by have := hrd.1; omega, by have := hrd.2.2; omega, hrd.2.1 _ h1⟩
  · exfalso
    have hlt := (Array.getElem?_eq_some_iff.1 ho).1
    simp [Array.getD, hlt] at hi

end
end Go.AI
