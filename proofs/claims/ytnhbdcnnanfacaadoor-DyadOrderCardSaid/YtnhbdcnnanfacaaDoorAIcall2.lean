/- A call goes through; and so every operation. -/
import Derived.Test.YtnhbdcnnanfacaaDoorAIcall
namespace Go.AI
open Go Go.RowKit
set_option linter.unusedVariables false
set_option linter.unusedSimpArgs false

section
variable {P : Program} {Inv : World → Prop} {na : Nat} {β0 : Nat → Nat → Prop} {w0 : World} {σ : St} {β : Nat → Nat → Prop} {a : Act} {w : World} {o : Oper} {bx : Nat → Box} {Φ : Nat → List AV → Option Spec} {dr : Bool} {n : Nat} {e : Eff}

/-- the boxes of digits among p are given up to the arena n -/
theorem freeze_ok (dr : Bool) {n : Nat} (hn : na < n) : ∀ (p : List Nat) (u : List (Nat × Box)) (σ : St) (β : Nat → Nat → Prop), p.Nodup → n ∉ p → freeze bx dr p = some u → (∀ i ∈ p, bx i = .unborn ∨ bx i = σ.box i) →
    R na β0 w0 σ β a w → σ.box n = .arena →
    ∃ β', R na β0 w0 { σ with boxes := setBoxes σ.boxes u } β' a w ∧ St.box { σ with boxes := setBoxes σ.boxes u } n = .arena ∧ (∀ x, β n x → β' n x) ∧
      (∀ i, i ≠ n → σ.box i = .arena → St.box { σ with boxes := setBoxes σ.boxes u } i = .arena ∧ ∀ x, β i x → β' i x) ∧ ∀ i ∈ p, (bx i = .arena ∧ σ.box i = .arena) ∨ ∃ T l, bx i = .digs T l ∧ ∀ x, β i x → β' n x
  | [], u, σ, β, _, _, h, _, hR, ha => by
    simp [freeze] at h
    subst h
    exact ⟨β, hR, ha, fun _ hx => hx, fun i _ hi => ⟨hi, fun _ hx => hx⟩, fun i hi => by simp at hi⟩
  | i :: p, u, σ, β, hnd, hnp, h, hbx, hR, ha => by
    rw [List.nodup_cons] at hnd
    simp only [List.mem_cons, not_or] at hnp
    unfold freeze at h
    split at h
    · rename_i hi
      obtain ⟨β', h1, h2, h3, h4, h5⟩ := freeze_ok dr hn p u σ β hnd.2 hnp.2 h (fun j hj => hbx j (by simp [hj])) hR ha
      refine ⟨β', h1, h2, h3, h4, fun j hj => ?_⟩
      rcases List.mem_cons.1 hj with rfl | hj
      · refine .inl ⟨hi, ?_⟩
        rcases hbx j (by simp) with h' | h' <;> rw [hi] at h'
        · simp at h'
        · exact h'.symm
      · exact h5 j hj
    · rename_i T l hi
      split at h
      · cases h
      · split at h
        · rename_i u' hu'
          cases h
          have hσi : σ.box i = .digs T l := by
            rcases hbx i (by simp) with h' | h' <;> rw [hi] at h'
            · simp at h'
            · exact h'.symm
          have hnai := hR.na_lt (i := i) (by rw [hσi]; simp)
          have hli := hR.len (i := i) (by rw [hσi]; simp)
          have hR' := hR.give hnai hli (Ne.symm hnp.1) hn ha
          have hbox' : ∀ j, St.box { σ with boxes := σ.boxes.set i .dead } j = if j = i then .dead else σ.box j := fun j => St.box_set _ _ _ _ hli
          obtain ⟨β', h1, h2, h3, h4, h5⟩ := freeze_ok dr hn p u' { σ with boxes := σ.boxes.set i .dead } (giveβ β i n) hnd.2 hnp.2 hu' (fun j hj => by
            have hji : ¬ j = i := fun e => hnd.1 (e ▸ hj)
            rw [hbox', if_neg hji]
            exact hbx j (by simp [hj])) hR' (by rw [hbox', if_neg hnp.1]; exact ha)
          refine ⟨β', h1, h2, fun x hx => h3 x ?_, fun j hjn hj => ?_, fun j hj => ?_⟩
          · unfold giveβ
            rw [if_neg hnp.1, if_pos rfl]
            exact .inl hx
          · have hji : j ≠ i := fun e => by rw [e, hσi] at hj; simp at hj
            obtain ⟨q1, q2⟩ := h4 j hjn (by rw [hbox', if_neg hji]; exact hj)
            refine ⟨q1, fun x hx => q2 x ?_⟩
            unfold giveβ
            rw [if_neg hji, if_neg hjn]
            exact hx
          · rcases List.mem_cons.1 hj with rfl | hj
            · refine .inr ⟨T, l, hi, fun x hx => h3 x ?_⟩
              unfold giveβ
              rw [if_neg hnp.1, if_pos rfl]
              exact .inr hx
            · have hji : j ≠ i := fun e => hnd.1 (e ▸ hj)
              rcases h5 j hj with ⟨q1, q2⟩ | ⟨T', l', q1, q2⟩
              · rw [hbox', if_neg hji] at q2
                exact .inl ⟨q1, q2⟩
              · refine .inr ⟨T', l', q1, fun x hx => q2 x ?_⟩
                unfold giveβ
                rw [if_neg hji, if_neg]
                · exact hx
                · intro e; exact hnp.2 (e ▸ hj)
        · cases h
    · cases h

theorem mem_aliasIds {n m : Nat} : ∀ {p : List Nat}, m ∈ aliasIds bx n p → (m = n ∧ ∃ i ∈ p, ∃ T l, bx i = .digs T l) ∨ (m ∈ p ∧ ∀ T l, bx m ≠ .digs T l)
  | [], h => by simp [aliasIds] at h
  | i :: p, h => by
    unfold aliasIds at h
    split at h
    · rename_i T l hi
      rcases List.mem_cons.1 h with rfl | h
      · exact .inl ⟨rfl, i, by simp, T, l, hi⟩
      · rcases mem_aliasIds h with ⟨h1, j, hj, hh⟩ | ⟨h1, h2⟩
        · exact .inl ⟨h1, j, by simp [hj], hh⟩
        · exact .inr ⟨by simp [h1], h2⟩
    · rename_i hi
      rcases List.mem_cons.1 h with rfl | h
      · exact .inr ⟨by simp, fun T l e => hi T l e⟩
      · rcases mem_aliasIds h with ⟨h1, j, hj, hh⟩ | ⟨h1, h2⟩
        · exact .inl ⟨h1, j, by simp [hj], hh⟩
        · exact .inr ⟨by simp [h1], h2⟩

theorem aliasIds_mem {n i : Nat} : ∀ {p : List Nat}, i ∈ p → (∀ T l, bx i ≠ .digs T l) → i ∈ aliasIds bx n p
  | j :: p, h, hi => by
    unfold aliasIds
    rcases List.mem_cons.1 h with rfl | h
    · split
      · rename_i T l e; exact absurd e (hi T l)
      · simp
    · split
      · simp [aliasIds_mem h hi]
      · simp [aliasIds_mem h hi]

theorem aliasIds_digs {n i : Nat} {T : TypeId} {l : List Nat} (hi : bx i = .digs T l) : ∀ {p : List Nat}, i ∈ p → n ∈ aliasIds bx n p
  | j :: p, h => by
    unfold aliasIds
    rcases List.mem_cons.1 h with rfl | h
    · split
      · simp
      · rename_i e; exact absurd hi (e T l)
    · split
      · simp
      · simp [aliasIds_digs hi h]

theorem sound_callEff (hR : R na β0 w0 σ β a w) (hb : Sub bx σ.box) (hInv : Inv w) (hΦ : PhiOk P Inv Φ) {f : Nat} {args : List AV} {vs : List Value} (hV : Vs ⟨σ.box, β, w⟩ args vs)
    (he : callEff bx dr Φ n f args = some e) (hp : andO e.pre True) (hn : Free na σ n) {dst : Option Tmp} :
    Enters P f ∧ Calls P f vs.toArray w fun en w' => ∃ v, en = .returned v ∧ ∃ β', R na β0 w0 { σ with boxes := setBoxes σ.boxes e.upd } β' a w' ∧ V ⟨St.box { σ with boxes := setBoxes σ.boxes e.upd }, β', w'⟩ e.val v := by
  unfold callEff at he
  split at he
  · cases he
  · rename_i as ps has
    split at he
    · cases he
    · rename_i s hs
      split at he
      · cases he
      · rename_i u hu
        cases he
        have hC := hΦ f as s hs hp
        refine ⟨hC.enters, ?_⟩
        let βc : Nat → Nat → Prop := fun i x => ∃ p, 1 ≤ i ∧ ps[i - 1]? = some p ∧ ∃ m ∈ p, β m x
        have hlt : ∀ i x, βc i x → x < w.heap.size := fun i x ⟨p, _, _, m, _, hm⟩ => hR.lt hm
        have hlen : ∀ as ps, asArgsFrom bx 1 args = some (as, ps) → as.length = args.length := fun as ps h => by
          have : ∀ (cs : List AV) (i : Nat) (as : List AV) (ps : List (List Nat)), asArgsFrom bx i cs = some (as, ps) → as.length = cs.length := by
            intro cs
            induction cs with
            | nil => intro i as ps h; simp [asArgsFrom] at h; rw [← h.1]
            | cons c cs ih =>
              intro i as ps h
              unfold asArgsFrom at h
              split at h
              · cases h
              · split at h
                · cases h
                · rename_i h'
                  cases h
                  simp [ih _ _ _ h']
          exact this args 1 as ps h
        have hargs := asArgsFrom_V (C' := ⟨argBs as.length, βc, w⟩) hR hb rfl args vs 1 as ps hV has (fun j h1 h2 => by
          show argBs _ j = _
          unfold argBs
          rw [if_pos (by rw [hlen as ps has]; omega)]) (fun j p hp' m hm x hx => ⟨p, by omega, by rw [show 1 + j - 1 = j by omega]; exact hp', m, hm, hx⟩)
        refine (hC.calls w vs βc hInv hlt hargs.2.2).mono ?_
        rintro en w' ⟨v, rfl, hg, hv⟩
        refine ⟨v, rfl, ?_⟩
        -- the callee's new memory: arena n
        have hnew := (hR.newId (w' := w') hn.na hn.len hn.un .arena (fun x => w.heap.size ≤ x ∧ x < w'.heap.size) hg (by simp) (fun x hx => hx) trivial)
        have hbox1 : ∀ j, St.box { σ with boxes := σ.boxes.set n .arena } j = if j = n then .arena else σ.box j := fun j => St.box_set _ _ _ _ hn.len
        have hnin : n ∉ dedup (s.res.names.flatMap fun j => if j = 0 then [] else ps.getD (j - 1) []) := by
          intro hm
          -- an id that is unborn cannot be frozen
          have : ∀ (p : List Nat) (u : List (Nat × Box)), freeze bx dr p = some u → n ∈ p → False := by
            intro p
            induction p with
            | nil => intro u _ h; simp at h
            | cons i p ih =>
              intro u h hm
              unfold freeze at h
              rcases List.mem_cons.1 hm with rfl | hm
              · rcases hb n with h' | h'
                · simp [h'] at h
                · rw [hn.un] at h'; simp [h'] at h
              · split at h
                · exact ih u h hm
                · split at h
                  · cases h
                  · split at h
                    · rename_i h'; exact ih _ h' hm
                    · cases h
                · cases h
          exact this _ u hu hm
        obtain ⟨β2, r1, r2, r3, r4, r5⟩ := freeze_ok (bx := bx) dr hn.na _ u _ _ (nodup_dedup _) hnin hu (fun i hi => by
          have hin' : ¬ i = n := fun e => hnin (e ▸ hi)
          rw [hbox1, if_neg hin']
          exact hb i) hnew (by rw [hbox1, if_pos rfl])
        refine ⟨β2, r1, ?_⟩
        refine relab_V (C := ⟨fun _ => .arena, resβ w w' βc, w'⟩) (C' := ⟨St.box { σ with boxes := setBoxes σ.boxes ((n, Box.arena) :: u) }, β2, w'⟩) (fun _ => rfl) rfl _ _ _ hv fun j hj => ?_
        by_cases h0 : j = 0
        · subst h0
          refine ⟨fun x hx => ⟨n, by simp, r3 x ((setβ_same _ _ _ _).2 (by simpa [resβ] using hx))⟩, fun i hi => ?_⟩
          simp at hi
          subst hi
          show St.box _ i ≠ _
          rw [show setBoxes σ.boxes ((i, Box.arena) :: u) = setBoxes (σ.boxes.set i .arena) u from rfl, r2]
          simp
        · have hin : ∀ m ∈ ps.getD (j - 1) [], m ∈ dedup (s.res.names.flatMap fun j => if j = 0 then [] else ps.getD (j - 1) []) := fun m hm =>
            mem_dedup.2 (List.mem_flatMap.2 ⟨j, hj, by rw [if_neg h0]; exact hm⟩)
          refine ⟨fun x hx => ?_, fun i hi => ?_⟩
          · simp only [resβ, if_neg h0] at hx
            obtain ⟨p, _, hpj, m, hm, hmx⟩ := hx
            have hpd : ps.getD (j - 1) [] = p := by simp [List.getD, hpj]
            have hmn : m ≠ n := fun e => hnin (e ▸ hin m (by rw [hpd]; exact hm))
            rcases r5 m (hin m (by rw [hpd]; exact hm)) with ⟨q1, q2⟩ | ⟨T, l, q1, q2⟩
            · refine ⟨m, ?_, (r4 m hmn q2).2 x ((setβ_other _ _ hmn x).2 hmx)⟩
              simp only [if_neg h0, hpd]
              exact aliasIds_mem hm (fun T l e => by rw [q1] at e; simp at e)
            · refine ⟨n, ?_, q2 x ((setβ_other _ _ hmn x).2 hmx)⟩
              simp only [if_neg h0, hpd]
              exact aliasIds_digs q1 hm
          · simp only [if_neg h0] at hi
            show St.box _ i ≠ _
            rw [show setBoxes σ.boxes ((n, Box.arena) :: u) = setBoxes (σ.boxes.set n .arena) u from rfl]
            rcases mem_aliasIds hi with ⟨rfl, _⟩ | ⟨hip, hid⟩
            · rw [r2]; simp
            · have hinn : i ≠ n := fun e => hnin (e ▸ hin i hip)
              rcases r5 i (hin i hip) with ⟨q1, q2⟩ | ⟨T, l, q1, q2⟩
              · rw [(r4 i hinn q2).1]; simp
              · exact absurd q1 (hid T l)

end
end Go.AI
