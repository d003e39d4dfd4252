/- Regions: in the text's order, and in whatever order is drawn. -/
import Derived.Test.YtnhbdcnnanfacaaDoorAIreg0
namespace Go.AI
open Go Go.RowKit
set_option linter.unusedVariables false
set_option linter.unusedSimpArgs false

theorem shareV_inst : ∀ {v : AV} {k : AV → Prop}, shareV v k → k v
  | .dig p l, k, h => h l rfl
  | .num kd n, k, h => h n rfl
  | .bool b, k, h => h b rfl
  | .junk, k, h => h
  | .nilS, k, h => h
  | .vec .., k, h => h
  | .agg _, k, h => h
  | .tup _, k, h => h
  | .addr .., k, h => h
  | .own _, k, h => h
  | .cref .., k, h => h
  | .fn .., k, h => h
  | .grown .., k, h => h
  | .boxv _, k, h => h
theorem shareVs_inst : ∀ {l : List AV} {k : List AV → Prop}, shareVs l k → k l
  | [], _, h => h
  | v :: l, k, h => shareVs_inst (l := l) (k := fun l' => k (v :: l')) (shareV_inst (v := v) (k := fun v' => shareVs l fun l' => k (v' :: l')) h)
theorem shareW_inst {v : AV} {k : AV → Prop} (h : shareW v k) : k v := by
  unfold shareW at h
  split at h
  · exact shareVs_inst h
  · exact shareV_inst h
theorem shareWs_inst : ∀ {l : List AV} {k : List AV → Prop}, shareWs l k → k l
  | [], _, h => h
  | v :: l, k, h => shareWs_inst (l := l) (k := fun l' => k (v :: l')) (shareW_inst (v := v) (k := fun v' => shareWs l fun l' => k (v' :: l')) h)
theorem share_inst {v : AV} {k : AV → Prop} (h : share v k) : k v := by
  unfold share at h
  split at h
  · exact shareVs_inst h
  · exact shareWs_inst h
  · exact h

theorem stepK_inst {b c : Bool} {e : Eff} {k : Eff → Prop} (h : cond b (share e.val fun v => k ⟨e.pre, v, e.upd⟩) (cond c (shareV e.val fun v => k ⟨e.pre, v, e.upd⟩) (k e))) : k e := by
  cases b
  · cases c
    · exact h
    · exact shareV_inst (k := fun v => k ⟨e.pre, v, e.upd⟩) h
  · exact share_inst (k := fun v => k ⟨e.pre, v, e.upd⟩) h

theorem andO_split {p : Option Prop} {q : Prop} (h : andO p q) : andO p True ∧ q := by
  cases p with
  | none => exact ⟨trivial, h⟩
  | some p => exact ⟨⟨h.1, trivial⟩, h.2⟩

theorem setBoxes_length : ∀ (u : List (Nat × Box)) (bs : List Box), (setBoxes bs u).length = bs.length
  | [], _ => rfl
  | (i, b) :: u, bs => by simp [setBoxes, setBoxes_length u]

theorem setBoxes_other : ∀ (u : List (Nat × Box)) (bs : List Box) (j : Nat), (∀ x ∈ u, x.1 ≠ j) → (setBoxes bs u).getD j .unborn = bs.getD j .unborn
  | [], _, _, _ => rfl
  | (i, b) :: u, bs, j, h => by
    simp only [setBoxes]
    rw [setBoxes_other u _ j (fun x hx => h x (by simp [hx]))]
    have hij : i ≠ j := h (i, b) (by simp)
    simp [List.getD, List.getElem?_set, hij]

theorem St.box_put (σ : St) (d : Option Tmp) (v : AV) : (σ.put d v).box = σ.box := by cases d <;> rfl
theorem St.boxes_put (σ : St) (d : Option Tmp) (v : AV) : (σ.put d v).boxes = σ.boxes := by cases d <;> rfl
theorem St.boxes_apply (σ : St) (d : Option Tmp) (e : Eff) : (σ.apply d e).boxes = setBoxes σ.boxes e.upd := by simp only [St.apply, St.boxes_put]

section
variable {P : Program} {Inv : World → Prop} {na : Nat} {β0 : Nat → Nat → Prop} {w0 : World} {σ : St} {β : Nat → Nat → Prop} {a : Act} {w : World} {Φ : Nat → List AV → Option Spec} {ops : Array Oper}

/-- the boxes that the operations of L will need are unborn -/
def Ready (na : Nat) (σ : St) (m : Nat) (L : List Oper) : Prop := na < m ∧ (∀ i, m ≤ i → σ.box i = .unborn) ∧ m + countAllocs L ≤ σ.boxes.length

theorem R.put_same (h : R na β0 w0 σ β a w) {d : Nat} {b : Bool} (hd : σ.tmps.getD d .junk = .bool b) : σ.put (some d) (.bool b) = σ ∧ a.tmps[d]? = some (.bool b) := by
  have hs : σ.tmps[d]? = some (.bool b) := by
    cases hc : σ.tmps[d]? with
    | none => simp [List.getD, hc] at hd
    | some c => simp [List.getD, hc] at hd; rw [hd]
  refine ⟨?_, ?_⟩
  · have hlt : d < σ.tmps.length := (List.getElem?_eq_some_iff.1 hs).1
    have : σ.tmps.set d (.bool b) = σ.tmps := by
      apply List.ext_getElem?
      intro j
      rw [List.getElem?_set]
      split
      · rename_i e; subst e; simp [hlt, hs]
        have := List.getElem?_eq_some_iff.1 hs
        exact this.2.symm
      · rfl
    show ({ σ with tmps := σ.tmps.set d (.bool b) } : St) = σ
    rw [this]
  · obtain ⟨v, h1, h2⟩ := h.tmps.get hs
    have := h2.bool_inv
    subst this
    simpa using h1

theorem wanted_of (h : R na β0 w0 σ β a w) {j d : Nat} {b want : Bool} {o : Oper} (hg : o.guard = some (j, want)) (hj : (ops[j]?).bind (·.dst) = some d) (hd : σ.tmps.getD d .junk = .bool b) :
    Region.wanted o (yielded ops a.tmps) = (b == want) := by
  obtain ⟨_, h2⟩ := h.put_same hd
  simp only [Region.wanted, hg, yielded, hj, Option.bind_some, h2]
  cases b <;> cases want <;> rfl

theorem V_undef {C : Ctx} : V C (.tup []) undef := by simp only [V]; exact ⟨[], rfl, by simp only [Vs]⟩

theorem unwanted_of (h : R na β0 w0 σ β a w) {j d : Nat} {want : Bool} {o : Oper} (hg : o.guard = some (j, want)) (hj : (ops[j]?).bind (·.dst) = some d) (hd : σ.tmps.getD d .junk = .tup []) :
    Region.wanted o (yielded ops a.tmps) = false := by
  have hs : σ.tmps[d]? = some (.tup []) := by
    cases hc : σ.tmps[d]? with
    | none => simp [List.getD, hc] at hd
    | some c => simp [List.getD, hc] at hd; rw [hd]
  obtain ⟨v, h1, h2⟩ := h.tmps.get hs
  simp only [V] at h2
  obtain ⟨vs, rfl, -⟩ := h2
  have h1' : a.tmps[d]? = some (.tuple vs.toArray) := by simpa using h1
  simp only [Region.wanted, hg, yielded, hj, Option.bind_some, h1']
  rfl

theorem step_sound (hR : R na β0 w0 σ β a w) (hInv : Inv w) (hΦ : PhiOk P Inv Φ) {drawn : Bool} {lim : Nat → Bool} {x : Nat × Oper} {k : St → Prop} (h : stepK P Φ drawn lim σ x k) (hn : allocates x.2.op = true → Free na σ x.1) :
    ∃ e, eff P Φ drawn σ.eval (if drawn && !isStore x.2.op then mask lim σ.box else σ.box) x.1 x.2 = some e ∧ andO e.pre True ∧ k (σ.apply x.2.dst e) ∧ StepOk P na β0 w0 (σ.apply x.2.dst e) x.2 a w := by
  unfold stepK at h
  split at h
  · rename_i e he
    obtain ⟨h1, h2⟩ := andO_split h
    refine ⟨e, he, h1, stepK_inst (k := fun e => k (σ.apply x.2.dst e)) h2, ?_⟩
    have hb : Sub (if drawn && !isStore x.2.op then mask lim σ.box else σ.box) σ.box := by
      split
      · exact Sub.mask _ _
      · exact Sub.refl _
    exact eff_sound hR hb hInv hΦ he h1 hn
  · exact h.elim

theorem Ready.step {m : Nat} {o : Oper} {L : List Oper} (h : Ready na σ m (o :: L)) {bx : Nat → Box} (hb : Sub bx σ.box) {dr : Bool} {e : Eff} (he : eff P Φ dr σ.eval bx m o = some e) :
    Ready na (σ.apply o.dst e) (if allocates o.op then m + 1 else m) L := by
  obtain ⟨h1, h2, h3⟩ := h
  have hu := eff_upd he
  have hlen : (σ.apply o.dst e).boxes.length = σ.boxes.length := by rw [St.boxes_apply, setBoxes_length]
  refine ⟨by split <;> omega, fun i hi => ?_, ?_⟩
  · have hmi : m ≤ i := by split at hi <;> omega
    show List.getD _ _ _ = _
    rw [St.boxes_apply, setBoxes_other]
    · exact h2 i hmi
    · intro x hx e'
      rcases hu x hx with ⟨q1, q2⟩ | ⟨_, q2⟩
      · rw [q2] at hi; simp at hi; omega
      · rcases hb x.1 with h' | h'
        · exact q2 h'
        · rw [e'] at h'; rw [h2 i hmi] at h'; exact q2 (e' ▸ h')
  · rw [hlen]
    simp only [countAllocs] at h3
    split <;> rename_i ha <;> simp [ha] at h3 <;> omega

theorem Ready.free {m : Nat} {o : Oper} {L : List Oper} (h : Ready na σ m (o :: L)) (ha : allocates o.op = true) : Free na σ m :=
  ⟨h.1, by have := h.2.2; simp [countAllocs, ha] at this; omega, h.2.1 m (Nat.le_refl _)⟩

theorem Ready.put {m : Nat} {o : Oper} {L : List Oper} (h : Ready na σ m (o :: L)) (d : Option Tmp) (v : AV) : Ready na (σ.put d v) (if allocates o.op then m + 1 else m) L := by
  obtain ⟨h1, h2, h3⟩ := h
  refine ⟨by split <;> omega, fun i hi => ?_, ?_⟩
  · rw [St.box_put]; exact h2 i (by split at hi <;> omega)
  · rw [St.boxes_put]
    simp only [countAllocs] at h3
    split <;> rename_i ha <;> simp [ha] at h3 <;> omega

/-- a region in the text's order -/
theorem evR_seq (hΦ : PhiOk P Inv Φ) (hGrow : ∀ w w', Inv w → Grow w w' → Inv w') (hInv0 : Inv w0) {Q : Exit → Act → World → Prop} {K : St → Prop}
    (hK : ∀ σ β a w, R na β0 w0 σ β a w → K σ → Q .normal a w) (lim : Nat) : ∀ (L : List Oper) (m : Nat) (σ : St) (β : Nat → Nat → Prop) (a : Act) (w : World), R na β0 w0 σ β a w → Ready na σ m L →
    evR P Φ false lim ops (number m L) σ K → wpList P ops Q L a w
  | [], m, σ, β, a, w, hR, _, h => hK σ β a w hR h
  | o :: L, m, σ, β, a, w, hR, hrd, h => by
    have hInv : Inv w := hGrow _ _ hInv0 hR.grow
    simp only [number, evR] at h
    have take : ∀ {k}, stepK P Φ false (sees lim ops o) σ (m, o) k → (∀ σ', k σ' → evR P Φ false lim ops (number (if allocates o.op then m + 1 else m) L) σ' K) → Region.wanted o (yielded ops a.tmps) = true → wpList P ops Q (o :: L) a w := by
      intro k hs hk hw
      obtain ⟨e, he, _, h2, h3⟩ := step_sound hR hInv hΦ hs (fun ha => hrd.free ha)
      unfold wpList
      rw [if_pos hw]
      refine .inl (h3 _ _ fun β' a' w' hR' => ?_)
      exact evR_seq hΦ hGrow hInv0 hK lim L _ _ β' a' w' hR' (hrd.step (Sub.refl _) he) (hk _ h2)
    have pass : evR P Φ false lim ops (number (if allocates o.op then m + 1 else m) L) (σ.put o.dst (.tup [])) K → Region.wanted o (yielded ops a.tmps) = false → wpList P ops Q (o :: L) a w := by
      intro hs hw
      unfold wpList
      rw [if_neg (by simp [hw])]
      exact evR_seq hΦ hGrow hInv0 hK lim L _ _ β _ w (hR.put o.dst V_undef) (hrd.put _ _) hs
    split at h
    · rename_i hg
      exact take h (fun _ h => h) (by simp [Region.wanted, hg])
    · rename_i j want hg
      split at h
      · exact h.elim
      · rename_i d hj
        split at h
        · rename_i b hd
          have hw := wanted_of (ops := ops) hR hg hj hd
          obtain ⟨hput, _⟩ := hR.put_same hd
          cases b <;> simp only [cond_true, cond_false] at h <;> rw [hput] at h <;> cases want <;> simp only [cond_true, cond_false] at h
          · exact take h (fun _ h => h) hw
          · exact pass h hw
          · exact pass h hw
          · exact take h (fun _ h => h) hw
        · rename_i hd
          exact pass h (unwanted_of hR hg hj hd)
        · exact h.elim

end
end Go.AI
