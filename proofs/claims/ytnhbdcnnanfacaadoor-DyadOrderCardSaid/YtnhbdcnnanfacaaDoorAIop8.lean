/- append. -/
import Derived.Test.YtnhbdcnnanfacaaDoorAIop7
namespace Go.AI
open Go Go.RowKit
set_option linter.unusedVariables false
set_option linter.unusedSimpArgs false

section
variable {P : Program} {na : Nat} {β0 : Nat → Nat → Prop} {w0 : World} {σ : St} {β : Nat → Nat → Prop} {a : Act} {w : World} {o : Oper} {bx : Nat → Box} {Φ : Nat → List AV → Option Spec} {dr : Bool} {n : Nat} {e : Eff}

/-- a box goes over into a new number; its block may have been written to -/
theorem R.move (h : R na β0 w0 σ β a w) {b : Nat} {T : TypeId} {l : List Nat} (hb : σ.box b = .digs T l) (hn : Free na σ n) (nb : Box) (hnb : nb ≠ .unborn) (s : Nat → Prop) {w' : World}
    (hs : ∀ x, s x → β b x ∨ (w.heap.size ≤ x ∧ x < w'.heap.size))
    (hoth : ∀ x, x < w.heap.size → ¬ β b x → w'.heap[x]? = w.heap[x]?) (hg : Grow w0 w') (hsz : w.heap.size ≤ w'.heap.size)
    (hok : BoxOk ⟨St.box { σ with boxes := (σ.boxes.set b .dead).set n nb }, setβ (setβ β b fun _ => False) n s, w'⟩ n nb) :
    R na β0 w0 { σ with boxes := (σ.boxes.set b .dead).set n nb } (setβ (setβ β b fun _ => False) n s) a w' := by
  have hna := h.na_lt (i := b) (by rw [hb]; simp)
  have hlb := h.len (i := b) (by rw [hb]; simp)
  have hbn : b ≠ n := fun e => by have := hn.un; rw [← e, hb] at this; simp at this
  have hlen : n < (σ.boxes.set b .dead).length := by simpa using hn.len
  have hbox : ∀ i, St.box { σ with boxes := (σ.boxes.set b .dead).set n nb } i = if i = n then nb else if i = b then .dead else σ.box i := by
    intro i
    have h1 := box_set (σ.boxes.set b .dead) n i nb hlen
    have h2 := box_set σ.boxes b i .dead hlb
    show List.getD _ _ _ = _
    rw [h1, h2]
    rfl
  have hβ : ∀ i x, i ≠ n → i ≠ b → (setβ (setβ β b fun _ => False) n s i x ↔ β i x) := by
    intro i x h1 h2
    rw [setβ_other _ _ h1, setβ_other _ _ h2]
  have hβb : ∀ x, ¬ setβ (setβ β b fun _ => False) n s b x := by
    intro x
    rw [setβ_other _ _ hbn, setβ_same]
    exact fun h => h
  have dis : ∀ i x, i ≠ b → β i x → ¬ β b x := by
    intro i x hi hx hy
    by_cases h' : i ≤ na
    · have := h.old i x h' hx; have := (h.new b x hna hy).1; omega
    · exact hi (h.disj i b x (by omega) hna hx hy)
  have hle : Le ⟨σ.box, β, w⟩ ⟨St.box { σ with boxes := (σ.boxes.set b .dead).set n nb }, setβ (setβ β b fun _ => False) n s, w'⟩ := by
    have ne : ∀ i, σ.box i ≠ .unborn → i ≠ n := fun i hi e => hi (e ▸ hn.un)
    refine ⟨fun i hi => ?_, fun i hi ha => ?_, fun i T' l' hi hd => ?_, fun i c' hi hc => ?_⟩
    · show St.box _ i ≠ _
      rw [hbox, if_neg (ne i hi)]
      split
      · simp
      · exact hi
    · change St.box _ i = _ at ha
      rw [hbox, if_neg (ne i hi)] at ha
      split at ha
      · simp at ha
      · rename_i e
        exact ⟨ha, fun x hx => ⟨(hβ i x (ne i hi) e).2 hx, hoth x (h.lt hx) (dis i x e hx)⟩⟩
    · change St.box _ i = _ at hd
      rw [hbox, if_neg (ne i hi)] at hd
      split at hd
      · simp at hd
      · rename_i e
        exact ⟨l', hd, rfl, fun x hx => ⟨(hβ i x (ne i hi) e).2 hx, fun cs hc => ⟨cs, (hoth x (h.lt hx) (dis i x e hx)).trans hc, rfl⟩⟩⟩
    · change St.box _ i = _ at hc
      rw [hbox, if_neg (ne i hi)] at hc
      split at hc
      · simp at hc
      · rename_i e
        exact ⟨c', hc, fun x hx => (hβ i x (ne i hi) e).2 hx⟩
  have hns : ∀ x, s x → w0.heap.size ≤ x ∧ x < w'.heap.size := by
    intro x hx
    have := h.grow.below.size
    rcases hs x hx with hx | hx
    · have := h.new b x hna hx; omega
    · omega
  refine ⟨Vs.mono hle _ _ h.tmps, h.defers, fun i => ?_, fun i hi => ?_, fun i x hi hx => ?_, fun i x hi hx => ?_, fun i j x hi hj hx hy => ?_, fun i x hi hx => ?_, hg, fun i x hi hx => h.arg0 i x hi (by have := hn.na; rwa [hβ i x (by omega) (by omega)] at hx)⟩
  · rw [hbox]
    split
    · rename_i e; subst e; exact hok
    · rename_i e
      split
      · trivial
      · rename_i f
        exact (h.boxes i).mono hle (fun x => hβ i x e f) (fun x hx => hoth x (h.lt hx) (dis i x f hx))
  · have := hn.na
    rw [hbox, if_neg (by omega), if_neg (by omega)]; exact h.args i hi
  · have := hn.na
    rw [hβ i x (by omega) (by omega)] at hx; exact h.old i x hi hx
  · by_cases e : i = n
    · subst e
      rw [setβ_same] at hx
      exact hns x hx
    · by_cases f : i = b
      · subst f; exact absurd hx (hβb x)
      · rw [hβ i x e f] at hx
        have := h.new i x hi hx
        omega
  · have hnb : ∀ j, na < j → setβ (setβ β b fun _ => False) n s j x → (j = n ∧ s x) ∨ (j ≠ n ∧ j ≠ b ∧ β j x) := by
      intro j hj hx
      by_cases e : j = n
      · subst e; rw [setβ_same] at hx; exact .inl ⟨rfl, hx⟩
      · by_cases f : j = b
        · subst f; exact absurd hx (hβb x)
        · rw [hβ j x e f] at hx; exact .inr ⟨e, f, hx⟩
    have key : ∀ j, na < j → j ≠ b → β j x → s x → False := by
      intro j hj hjb hx hy
      rcases hs x hy with hy | hy
      · exact dis j x hjb hx hy
      · have := h.lt hx; omega
    rcases hnb i hi hx with ⟨e1, s1⟩ | ⟨e1, f1, x1⟩ <;> rcases hnb j hj hy with ⟨e2, s2⟩ | ⟨e2, f2, x2⟩
    · omega
    · exact (key j hj f2 x2 s1).elim
    · exact (key i hi f1 x1 s2).elim
    · exact h.disj i j x hi hj x1 x2
  · rw [hbox] at hi
    split at hi
    · exact hnb hi
    · rename_i e
      split at hi
      · simp at hi
      · rename_i f
        rw [hβ i x e f] at hx
        exact h.unborn i x hi hx

theorem digCells {f : Nat → Prop} {base : Option Addr} {cap : Nat} {l : List Nat} (h : DigAt w f base cap l) (h0 : 0 < l.length) :
    ∃ b off, base = some ⟨b, off, none⟩ ∧ f b ∧ b < w.heap.size ∧ ∀ (j : Nat) (u : Value), (l.map fun (x : Nat) => Value.int .u32 (x : Int))[j]? = some u → w.cell? ((⟨b, off, none⟩ : Addr).add j) = some u := by
  rcases h with ⟨_, h2⟩ | ⟨b, off, cells, T, fr, h1, h2, h3, h4, h5⟩
  · subst h2; simp at h0
  · refine ⟨b, off, h1, h2, lt_of_block h3, fun j u hj => ?_⟩
    rw [add_none, cell?_of_block h3]
    simp at hj
    obtain ⟨x, hx, rfl⟩ := hj
    exact h5 j x hx

theorem zeros_size (n : Nat) : (Builtin.zeroCells (Value.int .u32 0).cells n).size = n := by simp [Builtin.zeroCells, Value.cells]

theorem get_front (l : List Nat) (rest : Array Value) (j x : Nat) (h : l[j]? = some x) : ((l.map fun (x : Nat) => Value.int .u32 (x : Int)).toArray ++ rest)[j]? = some (.int .u32 (x : Int)) := by
  have hj : j < l.length := (List.getElem?_eq_some_iff.1 h).1
  rw [Array.getElem?_append_left (by simpa using hj)]
  simp [h]

theorem sound_append_nil (hR : R na β0 w0 σ β a w) (hb : Sub bx σ.box) {t : TypeId} {p : List Nat} {l : List Nat} {u v : Value} (hu : V ⟨σ.box, β, w⟩ .nilS u) (hv : V ⟨σ.box, β, w⟩ (.dig p l) v)
    (he : appendEff P bx n t .nilS (.dig p l) = some e) (hp : andO e.pre True) (hn : Free na σ n) (ty : TypeId) :
    ∃ β' w' r, (Builtin.append_ #[t, t] ty #[u, v]).run P w = .ok r w' ∧ R na β0 w0 { σ with boxes := setBoxes σ.boxes e.upd } β' a w' ∧ V ⟨St.box { σ with boxes := setBoxes σ.boxes e.upd }, β', w'⟩ e.val r := by
  simp only [appendEff] at he
  split at he
  · rename_i el hu32
    split at he
    · rename_i har
      cases he
      obtain ⟨u1, u2, i, u3, u4, u5, u6⟩ := u32Elem_spec hu32
      simp only [V] at hu hv
      obtain ⟨hbn, hok, base, cap, rfl, hd⟩ := hv
      subst hu
      have hdig := hd (alive_of hb β w har)
      have hlen : l.length ≤ 2 ^ 40 := hp.1
      by_cases h0 : 0 < l.length
      · obtain ⟨b, off, rfl, hin, hblt, hcells⟩ := digCells hdig h0
        have hrun := run_append_nil (P := P) w t ty el i _ u1 u3 u6 ⟨b, off, none⟩ l.length cap (l.map fun (x : Nat) => Value.int .u32 (x : Int)) (by simp [u4]) hcells h0 (by omega) (by rw [u5]; omega)
        obtain ⟨q1, q2, q3, q4, q5⟩ := hR.newArena hn _ el (.inr rfl)
        refine ⟨_, _, _, hrun, q1, ?_⟩
        simp only [V]
        exact ⟨q3, hok, _, _, rfl, fun _ => .inr ⟨w.heap.size, 0, _, el, (0, 0), rfl, q4, q5, grownCap_ge _ _ _ _, fun j x hj => by rw [Nat.zero_add]; exact get_front l _ j x hj⟩⟩
      · have hl : l = [] := List.eq_nil_of_length_eq_zero (by omega)
        subst hl
        have hrun : (Builtin.append_ #[t, t] ty #[.slice none 0 0, .slice base ([] : List Nat).length cap]).run P w = .ok (.slice none 0 0) w := by
          cases base <;> simp [Builtin.append_, run_underlying u1, sizeOf, typeInfo, u3, Builtin.lenOf, Builtin.firstCells, loadCells, loadCellsFrom]
        have hq := hR.newId hn.na hn.len hn.un .arena (fun _ => False) (Grow.refl w) (by simp) (fun x hx => hx.elim) trivial
        refine ⟨_, _, _, hrun, hq, ?_⟩
        simp only [V]
        refine ⟨fun j hj => ?_, hok, none, 0, by simp, fun _ => .inl ⟨rfl, rfl⟩⟩
        simp at hj
        subst hj
        show St.box _ j ≠ _
        rw [show setBoxes σ.boxes [(j, Box.arena)] = σ.boxes.set j .arena from rfl, St.box_set _ _ _ _ hn.len, if_pos rfl]
        simp
    · cases he
  · cases he

theorem sound_append_own (hR : R na β0 w0 σ β a w) (hb : Sub bx σ.box) {t : TypeId} {p : List Nat} {xs : List Nat} {b : Nat} {u v : Value} (hu : V ⟨σ.box, β, w⟩ (.own b) u) (hv : V ⟨σ.box, β, w⟩ (.dig p xs) v)
    (he : appendEff P bx n t (.own b) (.dig p xs) = some e) (hp : andO e.pre True) (hn : Free na σ n) (ty : TypeId) :
    ∃ β' w' r, (Builtin.append_ #[t, t] ty #[u, v]).run P w = .ok r w' ∧ R na β0 w0 { σ with boxes := setBoxes σ.boxes e.upd } β' a w' ∧ V ⟨St.box { σ with boxes := setBoxes σ.boxes e.upd }, β', w'⟩ e.val r := by
  simp only [appendEff] at he
  split at he
  · rename_i T l el hbx hu32
    split at he
    · rename_i hc
      simp only [Bool.and_eq_true, decide_eq_true_eq] at hc
      obtain ⟨rfl, har⟩ := hc
      cases he
      obtain ⟨u1, u2, i, u3, u4, u5, u6⟩ := u32Elem_spec hu32
      have hσ := hb.digs hbx
      have hna := hR.na_lt (i := b) (by rw [hσ]; simp)
      have hlb := hR.len (i := b) (by rw [hσ]; simp)
      have hbok := hR.boxes b
      rw [hσ] at hbok
      obtain ⟨hb1, hb2, hb3⟩ := hbok
      simp only [V] at hu hv
      obtain ⟨hbn, hok, base, cap, rfl, hd⟩ := hv
      have hdig := hd (alive_of hb β w har)
      obtain ⟨⟨-, hlen⟩, _⟩ := hp
      have hokl : okDig (l ++ xs) := ⟨by simp; omega, fun x hx => (List.mem_append.1 hx).elim (hb2.2 x) (hok.2 x)⟩
      have hbn' : b ≠ n := fun e => by have := hn.un; rw [← e, hσ] at this; simp at this
      have hlen' : n < (σ.boxes.set b .dead).length := by simpa using hn.len
      have hboxn : ∀ nb, St.box { σ with boxes := (σ.boxes.set b .dead).set n nb } n = nb := fun nb => by
        show List.getD _ _ _ = _
        rw [box_set _ _ _ _ hlen', if_pos rfl]
      have fin : ∀ (w' : World) (g cp : Nat) (cs : Array Value) (s : Nat → Prop) (hs : ∀ x, s x ↔ x = g) (hsb : β b g ∨ (w.heap.size ≤ g ∧ g < w'.heap.size)) (hoth : ∀ x, x < w.heap.size → ¬ β b x → w'.heap[x]? = w.heap[x]?)
          (hg : Grow w0 w') (hsz : w.heap.size ≤ w'.heap.size) (hcs : w'.heap[g]? = some (.cells cs T (0, 0))) (hcap : cp = cs.size) (hle : l.length + xs.length ≤ cp) (hmax : cp ≤ maxLen)
          (hget : ∀ (j x : Nat), (l ++ xs)[j]? = some x → cs[j]? = some (.int .u32 (x : Int))),
          R na β0 w0 { σ with boxes := (σ.boxes.set b .dead).set n (.digs T (l ++ xs)) } (setβ (setβ β b fun _ => False) n s) a w' ∧
          V ⟨St.box { σ with boxes := (σ.boxes.set b .dead).set n (.digs T (l ++ xs)) }, setβ (setβ β b fun _ => False) n s, w'⟩ (.own n) (.slice (some ⟨g, 0, none⟩) (l ++ xs).length cp) := by
        intro w' g cp cs s hs hsb hoth hg hsz hcs hcap hle hmax hget
        refine ⟨hR.move hσ hn _ (by simp) s (fun x hx => by rw [(hs x).1 hx]; exact hsb) hoth hg hsz ⟨fun x y hx hy => ?_, hokl, fun x hx => ?_⟩, ?_⟩
        · have h1 := (setβ_same _ _ _ _).1 hx
          have h2 := (setβ_same _ _ _ _).1 hy
          rw [(hs x).1 h1, (hs y).1 h2]
        · have h1 := (setβ_same _ _ _ _).1 hx
          rw [(hs x).1 h1]
          exact ⟨cs, hcs, by simp; omega, hget⟩
        · simp only [V]
          rw [hboxn]
          refine ⟨by simp, ⟨_, _, _, rfl⟩, fun T' l' hl => ?_⟩
          cases hl
          exact .inr ⟨g, cp, (setβ_same _ _ _ _).2 ((hs g).2 rfl), rfl, by simp; omega, hmax, cs, hcs, hcap⟩
      have hgrow : ∀ cs : Array Value, Grow w (w.drew.alloc (.cells cs T)) := fun cs => ((Grow.refl w).drew).alloc cs T
      by_cases hx0 : xs = []
      · subst hx0
        rcases hu.2.2 T l hσ with ⟨rfl, rfl⟩ | ⟨blk, cp, g1, rfl, g2, g3, cs, g4, g5⟩
        · have hrun : (Builtin.append_ #[t, t] ty #[.slice none 0 0, .slice base ([] : List Nat).length cap]).run P w = .ok (.slice none 0 0) w := by
            cases base <;> simp [Builtin.append_, run_underlying u1, sizeOf, typeInfo, u3, Builtin.lenOf, Builtin.firstCells, loadCells, loadCellsFrom]
          have hfalse : ∀ x, setβ (setβ β b fun _ => False) n (fun _ => False) n x → False := fun x hx => (setβ_same _ _ _ _).1 hx
          refine ⟨_, _, _, hrun, hR.move hσ hn (.digs T ([] ++ [])) (by simp) (fun _ => False) (fun x hx => hx.elim) (fun x hx _ => rfl) hR.grow (Nat.le_refl _) ⟨fun x y hx _ => (hfalse x hx).elim, hokl, fun x hx => (hfalse x hx).elim⟩, ?_⟩
          simp only [V]
          rw [show setBoxes σ.boxes [(b, Box.dead), (n, Box.digs T ([] ++ []))] = (σ.boxes.set b .dead).set n (.digs T ([] ++ [])) from rfl, hboxn]
          exact ⟨by simp, ⟨_, _, _, rfl⟩, fun T' l' hl => by cases hl; exact .inl (by simp)⟩
        · have hrun : (Builtin.append_ #[t, t] ty #[.slice (some ⟨blk, 0, none⟩) l.length cp, .slice base ([] : List Nat).length cap]).run P w = .ok (.slice (some ⟨blk, 0, none⟩) (l ++ []).length cp) w := by
            cases base <;> simp [Builtin.append_, run_underlying u1, sizeOf, typeInfo, u3, Builtin.lenOf, Builtin.firstCells, loadCells, loadCellsFrom, g2, storeCells]
          obtain ⟨f1, f2⟩ := fin w blk cp cs (· = blk) (fun x => Iff.rfl) (.inl g1) (fun _ _ _ => rfl) hR.grow (Nat.le_refl _) g4 g5 (by simpa using g2) g3 (fun j x hj => by
            obtain ⟨cs', hc', h4, h5⟩ := hb3 blk g1
            rw [g4] at hc'
            cases hc'
            exact h5 j x (by simpa using hj))
          exact ⟨_, _, _, hrun, f1, f2⟩
      have h0 : 0 < xs.length := List.length_pos_iff.2 hx0
      obtain ⟨xb, xoff, rfl, hin, hxlt, hcells⟩ := digCells hdig h0
      rcases hu.2.2 T l hσ with ⟨rfl, rfl⟩ | ⟨blk, cp, g1, rfl, g2, g3, cs, g4, g5⟩
      · have hrun := run_append_nil (P := P) w t ty T i _ u1 u3 u6 ⟨xb, xoff, none⟩ xs.length cap (xs.map fun (x : Nat) => Value.int .u32 (x : Int)) (by simp [u4]) hcells h0 (by omega) (by rw [u5]; omega)
        have hge := grownCap_ge w xs.length 0 T
        obtain ⟨C, hC⟩ : ∃ C, C = ((xs.map fun (x : Nat) => Value.int .u32 (x : Int)).toArray ++ Builtin.zeroCells (Value.int .u32 0).cells (grownCap w xs.length 0 T - xs.length)) := ⟨_, rfl⟩
        rw [← hC] at hrun
        obtain ⟨f1, f2⟩ := fin (w.drew.alloc (.cells C T)) w.heap.size (grownCap w xs.length 0 T) C (· = w.heap.size) (fun x => Iff.rfl) (.inr ⟨Nat.le_refl _, by simp⟩) (fun x hx _ => (hgrow _).below.block x hx) (hR.grow.trans (hgrow _)) (by simp) (heap_alloc_new w.drew _)
          (by rw [hC]; simp [zeros_size]; omega) (by simpa using hge) (grownCap_le_maxLen _ _ _ _ (by simp only [maxLen]; omega)) (fun j x hj => by rw [hC]; exact get_front xs _ j x hj)
        exact ⟨_, _, _, hrun, f1, f2⟩
      · obtain ⟨cs', hc', h4, h5⟩ := hb3 blk g1
        rw [g4] at hc'
        cases hc'
        by_cases hroom : l.length + xs.length ≤ cp
        · have hrun := run_append_room (P := P) w t ty T i u1 u3 blk l.length cp cs g4 ⟨xb, xoff, none⟩ xs.length cap (xs.map fun (x : Nat) => Value.int .u32 (x : Int)) (by simp [u4]) hcells (fun y hy => by simp at hy; obtain ⟨x, _, rfl⟩ := hy; rfl) hroom (by simp [u4]; omega)
          rw [u4, Nat.mul_one] at hrun
          obtain ⟨C, hC⟩ : ∃ C, C = (cs.toList.take l.length ++ (xs.map fun (x : Nat) => Value.int .u32 (x : Int)) ++ cs.toList.drop (l.length + (xs.map fun (x : Nat) => Value.int .u32 (x : Int)).length)).toArray := ⟨_, rfl⟩
          rw [← hC] at hrun
          obtain ⟨f1, f2⟩ := fin (w.setRow blk C) blk cp C (· = blk) (fun x => Iff.rfl) (.inl g1) (fun x hx hne => setRow_other _ _ _ _ (fun e => hne (e ▸ g1))) (setRow_grow hR.grow (hR.new b blk hna g1).1 g4) (by simp) (setRow_heap w blk cs _ T (0, 0) g4)
            (by rw [hC]; simp; omega) hroom g3 (fun j x hj => by
              rw [hC, List.getElem?_toArray]
              rw [List.getElem?_append] at hj
              rw [List.append_assoc]
              split at hj
              · rename_i hjl
                rw [List.getElem?_append_left (by simp; omega), List.getElem?_take, if_pos hjl]
                simpa using h5 j x hj
              · rename_i hjl
                have hjx : j - l.length < xs.length := (List.getElem?_eq_some_iff.1 hj).1
                rw [List.getElem?_append_right (by simp; omega), List.getElem?_append_left (by simp; omega)]
                have e1 : (cs.toList.take l.length).length = l.length := by simp; omega
                rw [e1]
                simp [hj])
          rw [List.length_append] at f2
          exact ⟨_, _, _, hrun, f1, f2⟩
        · have holds : ∀ (j : Nat) (y : Value), (l.map fun (x : Nat) => Value.int .u32 (x : Int))[j]? = some y → w.cell? ((⟨blk, 0, none⟩ : Addr).add j) = some y := by
            intro j y hj
            rw [add_none, cell?_of_block g4, Nat.zero_add]
            simp at hj
            obtain ⟨x, hx, rfl⟩ := hj
            exact h5 j x hx
          have hfit : Builtin.nextslicecap (l.length + xs.length) cp * i.bytes ≤ 281474976710656 := growslice_fits (by omega) (by rw [u5]; omega)
          have hrun := run_append_grow (P := P) w t ty T i _ u1 u3 u6 ⟨blk, 0, none⟩ l.length cp (l.map fun (x : Nat) => Value.int .u32 (x : Int)) (by simp [u4]) holds ⟨xb, xoff, none⟩ xs.length cap (xs.map fun (x : Nat) => Value.int .u32 (x : Int)) (by simp [u4]) hcells (by omega) (by omega) hfit
          have hge := grownCap_ge w (l.length + xs.length) cp T
          obtain ⟨C, hC⟩ : ∃ C, C = ((l.map fun (x : Nat) => Value.int .u32 (x : Int)).toArray ++ (xs.map fun (x : Nat) => Value.int .u32 (x : Int)).toArray ++ Builtin.zeroCells (Value.int .u32 0).cells (grownCap w (l.length + xs.length) cp T - (l.length + xs.length))) := ⟨_, rfl⟩
          rw [← hC] at hrun
          obtain ⟨f1, f2⟩ := fin (w.drew.alloc (.cells C T)) w.heap.size (grownCap w (l.length + xs.length) cp T) C (· = w.heap.size) (fun x => Iff.rfl) (.inr ⟨Nat.le_refl _, by simp⟩) (fun x hx _ => (hgrow _).below.block x hx) (hR.grow.trans (hgrow _)) (by simp) (heap_alloc_new w.drew _)
            (by rw [hC]; simp [zeros_size]; omega) hge (grownCap_le_maxLen _ _ _ _ (by simp only [maxLen]; omega)) (fun j x hj => by
              rw [hC]
              have := get_front (l ++ xs) (Builtin.zeroCells (Value.int .u32 0).cells (grownCap w (l.length + xs.length) cp T - (l.length + xs.length))) j x hj
              simpa using this)
          rw [List.length_append] at f2
          exact ⟨_, _, _, hrun, f1, f2⟩
    · cases he
  · cases he

end
end Go.AI
