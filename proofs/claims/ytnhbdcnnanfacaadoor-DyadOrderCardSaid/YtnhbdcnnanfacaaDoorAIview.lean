/- What is kept at a loop's head, laid out anew, is still true. -/
import Derived.Test.YtnhbdcnnanfacaaDoorAIdraw
namespace Go.AI
open Go Go.RowKit
set_option linter.unusedVariables false
set_option linter.unusedSimpArgs false

section
variable {na : Nat} {β0 : Nat → Nat → Prop} {w0 : World} {σ : St} {β : Nat → Nat → Prop} {a : Act} {w : World} {kb : List (Option Nat)}

/-- the new layout's arenas -/
def viewβ (na : Nat) (β : Nat → Nat → Prop) (kb : List (Option Nat)) : Nat → Nat → Prop := fun i x =>
  if i ≤ na then β i x
  else if i = na + 1 then ∃ j, na < j ∧ some j ∉ kb ∧ β j x
  else ∃ j, kb[i - (na + 2)]? = some (some j) ∧ β j x

def layBs (na : Nat) (bs : List Box) : Nat → Box := fun i => (List.replicate (na + 2) Box.arena ++ bs).getD i .unborn

theorem layBs_low {na : Nat} {bs : List Box} {i : Nat} (h : i < na + 2) : layBs na bs i = .arena := by
  unfold layBs
  simp [List.getD, List.getElem?_append, h, List.getElem?_replicate]

theorem layBs_high {na : Nat} {bs : List Box} {i : Nat} (h : na + 2 ≤ i) : layBs na bs i = bs.getD (i - (na + 2)) .unborn := by
  unfold layBs
  simp only [List.getD, List.getElem?_append, List.length_replicate]
  rw [if_neg (by omega)]

theorem view_inP (hkb : ∀ i, some i ∈ kb → σ.box i ≠ .arena) {p p' : List Nat} (hal : ∀ i ∈ p, σ.box i = .arena) (hp : (∀ i ∈ p, na < i) ∨ ((∀ i ∈ p, 0 < i) ∧ p' = wideA na)) (hp' : na + 1 ∈ p') {bs : List Box} {b : Nat}
    (h : Ctx.inP ⟨σ.box, β, w⟩ p b) : Ctx.inP ⟨layBs na bs, viewβ na β kb, w⟩ p' b := by
  obtain ⟨i, hi, hx⟩ := h
  by_cases hna : na < i
  · refine ⟨na + 1, hp', ?_⟩
    show viewβ na β kb (na + 1) b
    unfold viewβ
    rw [if_neg (by omega), if_pos rfl]
    exact ⟨i, hna, fun hm => hkb i hm (hal i hi), hx⟩
  · rcases hp with hp | ⟨h0, rfl⟩
    · exact absurd (hp i hi) hna
    · have := h0 i hi
      refine ⟨i, by simp [wideA]; exact ⟨i - 1, by omega, by omega⟩, ?_⟩
      show viewβ na β kb i b
      unfold viewβ
      rw [if_pos (by omega)]
      exact hx

mutual
theorem merge_V (hkb : ∀ i, some i ∈ kb → σ.box i ≠ .arena) (bs : List Box) (any : Bool) : ∀ (c c' : AV) (v : Value), V ⟨σ.box, β, w⟩ c v → AV.merge σ.box na any c = some c' → V ⟨layBs na bs, viewβ na β kb, w⟩ c' v
  | .junk, c', v, hV, h => by simp [AV.merge] at h; subst h; simp only [V]
  | .num .., c', v, hV, h => by simp [AV.merge] at h; subst h; simp only [V] at hV ⊢; exact hV
  | .bool _, c', v, hV, h => by simp [AV.merge] at h; subst h; simp only [V] at hV ⊢; exact hV
  | .nilS, c', v, hV, h => by
    simp [AV.merge] at h
    subst h
    simp only [V] at hV ⊢
    subst hV
    refine ⟨fun i hi => ?_, ⟨by simp, by simp⟩, none, 0, by simp, fun _ => .inl ⟨rfl, rfl⟩⟩
    have : i < na + 2 := by split at hi <;> simp [wideA] at hi <;> omega
    show layBs na bs i ≠ _
    rw [layBs_low this]; simp
  | .dig p l, c', v, hV, h => by
    simp only [AV.merge] at h
    split at h
    · rename_i har
      have h0 : ∀ i ∈ p, 0 < i := by simpa [notZero] using (Bool.and_eq_true_iff.1 har).2
      replace har := (Bool.and_eq_true_iff.1 har).1
      simp only [V] at hV
      obtain ⟨_, hok, base, cap, rfl, hd⟩ := hV
      have hal := alive_of (Sub.refl σ.box) β w har
      have key : ∀ p', ((∀ i ∈ p, na < i) ∨ p' = wideA na) → na + 1 ∈ p' → (∀ i ∈ p', i < na + 2) → V ⟨layBs na bs, viewβ na β kb, w⟩ (.dig p' l) (.slice base l.length cap) := by
        intro p' h1 h2 h3
        simp only [V]
        refine ⟨fun i hi => ?_, hok, base, cap, rfl, fun _ => (hd hal).mono fun b hb => ⟨view_inP hkb hal (h1.imp id fun e => ⟨h0, e⟩) h2 hb, rfl⟩⟩
        show layBs na bs i ≠ _
        rw [layBs_low (h3 i hi)]; simp
      split at h
      · cases h
        exact key _ (.inr rfl) (by simp [wideA]) (by simp [wideA])
      · split at h
        · rename_i hall
          cases h
          exact key _ (.inl (by simpa using hall)) (by simp) (by simp)
        · cases h
          exact key _ (.inr rfl) (by simp [wideA]) (by simp [wideA])
    · cases h
  | .vec p n l, c', v, hV, h => by
    simp only [AV.merge] at h
    split at h
    · rename_i har
      have h0 : ∀ i ∈ p, 0 < i := by simpa [notZero] using (Bool.and_eq_true_iff.1 har).2
      replace har := (Bool.and_eq_true_iff.1 har).1
      split at h
      · rename_i l' hl
        cases h
        simp only [V] at hV
        obtain ⟨_, hlen, hn, base, cap, us, rfl, hus, hsz, hd⟩ := hV
        have hal := alive_of (Sub.refl σ.box) β w har
        have hm := merges_V hkb bs any l l' us hus hl
        have hll : l'.length = l.length := by rw [hm.length, hus.length]
        have key : ∀ p', ((∀ i ∈ p, na < i) ∨ p' = wideA na) → na + 1 ∈ p' → (∀ i ∈ p', i < na + 2) → V ⟨layBs na bs, viewβ na β kb, w⟩ (.vec p' n l') (.slice base l.length cap) := by
          intro p' h1 h2 h3
          simp only [V]
          refine ⟨fun i hi => ?_, by omega, hn, base, cap, us, by rw [hll], hm, hsz, fun _ => (hd hal).mono fun b hb => ⟨view_inP hkb hal (h1.imp id fun e => ⟨h0, e⟩) h2 hb, rfl⟩⟩
          show layBs na bs i ≠ _
          rw [layBs_low (h3 i hi)]; simp
        split
        · exact key _ (.inr rfl) (by simp [wideA]) (by simp [wideA])
        · split
          · rename_i hall
            exact key _ (.inl (by simpa using hall)) (by simp) (by simp)
          · exact key _ (.inr rfl) (by simp [wideA]) (by simp [wideA])
      · cases h
    · cases h
  | .agg cs, c', v, hV, h => by
    simp only [AV.merge] at h
    split at h
    · rename_i cs' hcs
      cases h
      simp only [V] at hV ⊢
      obtain ⟨vs, rfl, hvs⟩ := hV
      exact ⟨vs, rfl, merges_V hkb bs any cs cs' vs hvs hcs⟩
    · cases h
  | .tup cs, c', v, hV, h => by
    simp only [AV.merge] at h
    split at h
    · rename_i cs' hcs
      cases h
      simp only [V] at hV ⊢
      obtain ⟨vs, rfl, hvs⟩ := hV
      exact ⟨vs, rfl, merges_V hkb bs any cs cs' vs hvs hcs⟩
    · cases h
  | .fn f cs, c', v, hV, h => by
    simp only [AV.merge] at h
    split at h
    · rename_i cs' hcs
      cases h
      simp only [V] at hV ⊢
      obtain ⟨vs, rfl, hvs⟩ := hV
      exact ⟨vs, rfl, merges_V hkb bs any cs cs' vs hvs hcs⟩
    · cases h
  | .cref p cs, c', v, hV, h => by
    simp only [AV.merge] at h
    split at h
    · rename_i har
      have h0 : ∀ i ∈ p, 0 < i := by simpa [notZero] using (Bool.and_eq_true_iff.1 har).2
      replace har := (Bool.and_eq_true_iff.1 har).1
      split at h
      · rename_i l' hl
        cases h
        simp only [V] at hV ⊢
        obtain ⟨_, vs, hvs, b, off, rfl, hd⟩ := hV
        have hal := alive_of (Sub.refl σ.box) β w har
        refine ⟨fun i hi => ?_, vs, merges_V hkb bs any cs l' vs hvs hl, b, off, rfl, fun _ => ⟨view_inP hkb hal (.inr ⟨h0, rfl⟩) (by simp [wideA]) (hd hal).1, (hd hal).2⟩⟩
        simp [wideA] at hi
        show layBs na bs i ≠ _
        rw [layBs_low (by omega)]; simp
      · cases h
    · cases h
  | .own _, c', v, hV, h => by simp [AV.merge] at h
  | .addr .., c', v, hV, h => by simp [AV.merge] at h
  | .grown .., c', v, hV, h => by simp [AV.merge] at h
  | .boxv _, c', v, hV, h => by simp [AV.merge] at h
theorem merges_V (hkb : ∀ i, some i ∈ kb → σ.box i ≠ .arena) (bs : List Box) (any : Bool) : ∀ (cs cs' : List AV) (vs : List Value), Vs ⟨σ.box, β, w⟩ cs vs → AV.merges σ.box na any cs = some cs' → Vs ⟨layBs na bs, viewβ na β kb, w⟩ cs' vs
  | [], cs', [], hV, h => by simp [AV.merges] at h; subst h; simp only [Vs]
  | c :: cs, cs', v :: vs, hV, h => by
    simp only [AV.merges] at h
    split at h
    · cases h
    · rename_i c' hc
      split at h
      · cases h
      · rename_i cs'' hcs
        cases h
        simp only [Vs] at hV ⊢
        exact ⟨merge_V hkb bs any c c' v hV.1 hc, merges_V hkb bs any cs cs'' vs hV.2 hcs⟩
  | [], _, _ :: _, hV, _ => by simp only [Vs] at hV
  | _ :: _, _, [], hV, _ => by simp only [Vs] at hV
end

/-- what a box that is kept holds, before and behind -/
def KeptOk (na : Nat) (σ : St) (β : Nat → Nat → Prop) (kb : List (Option Nat)) (bs : List Box) (w : World) (s : Option Nat) (b : Box) : Prop :=
  match s with
  | none => ∃ T, b = .digs T []
  | some i => (∃ T l, σ.box i = .digs T l ∧ b = .digs T l) ∨ ∃ cs cs', σ.box i = .cells cs ∧ b = .cells cs' ∧ ∀ vs, Vs ⟨σ.box, β, w⟩ cs vs → Vs ⟨layBs na bs, viewβ na β kb, w⟩ cs' vs

theorem view_kept (hR : R na β0 w0 σ β a w) (hkb : ∀ i, some i ∈ kb → σ.box i ≠ .arena) (bs : List Box) : ∀ (keep : List (Nat × Keep)) (vals : List AV), view na σ keep = some vals →
    (keptBoxes σ keep).length = (boxesOf vals).length ∧ ∀ (j : Nat) (s : Option Nat) (b : Box), (keptBoxes σ keep)[j]? = some s → (boxesOf vals)[j]? = some b → KeptOk na σ β kb bs w s b
  | [], vals, h => by simp [view] at h; subst h; simp [keptBoxes, srcs, boxesOf]
  | (t, kp) :: keep, vals, h => by
    simp only [view] at h
    split at h
    · cases h
    · rename_i v hv
      split at h
      · cases h
      · rename_i vs hvs
        cases h
        obtain ⟨h1, h2⟩ := view_kept hR hkb bs keep vs hvs
        have cons : ∀ {s b}, KeptOk na σ β kb bs w s b → keptBoxes σ ((t, kp) :: keep) = s :: keptBoxes σ keep → boxesOf (v :: vs) = b :: boxesOf vs →
            (keptBoxes σ ((t, kp) :: keep)).length = (boxesOf (v :: vs)).length ∧ ∀ (j : Nat) (s : Option Nat) (b : Box), (keptBoxes σ ((t, kp) :: keep))[j]? = some s → (boxesOf (v :: vs))[j]? = some b → KeptOk na σ β kb bs w s b := by
          intro s b hk e1 e2
          rw [e1, e2]
          refine ⟨by simp [h1], fun j s' b' hs hb => ?_⟩
          cases j with
          | zero => simp at hs hb; subst hs; subst hb; exact hk
          | succ j => exact h2 j s' b' (by simpa using hs) (by simpa using hb)
        have same : keptBoxes σ ((t, kp) :: keep) = keptBoxes σ keep → boxesOf (v :: vs) = boxesOf vs →
            (keptBoxes σ ((t, kp) :: keep)).length = (boxesOf (v :: vs)).length ∧ ∀ (j : Nat) (s : Option Nat) (b : Box), (keptBoxes σ ((t, kp) :: keep))[j]? = some s → (boxesOf (v :: vs))[j]? = some b → KeptOk na σ β kb bs w s b := by
          intro e1 e2
          rw [e1, e2]
          exact ⟨h1, h2⟩
        have noBox : ∀ {c c' : AV} {any : Bool}, AV.merge σ.box na any c = some c' → boxesOf (c' :: vs) = boxesOf vs := by
          intro c c' any hm
          cases c <;> simp only [AV.merge] at hm <;> first | (cases hm; done) | skip
          all_goals
            (repeat' split at hm) <;> first | (cases hm; rfl) | (cases hm; done)
        cases hc : σ.tmps.getD t .junk with
        | own b =>
          rw [hc] at hv
          simp only [viewAV] at hv
          split at hv
          · rename_i T l hb
            cases hv
            exact cons (s := some b) (b := .digs T l) (.inl ⟨T, l, hb, rfl⟩) (by unfold keptBoxes; simp only [List.map_cons, srcs, hc]) rfl
          · cases hv
        | addr b off =>
          rw [hc] at hv
          simp only [viewAV] at hv
          split at hv
          · split at hv
            · rename_i cs hb
              split at hv
              · rename_i cs' hcs
                cases hv
                exact cons (s := some b) (b := .cells cs') (.inr ⟨cs, cs', hb, rfl, fun us hus => merges_V hkb bs _ cs cs' us hus hcs⟩) (by unfold keptBoxes; simp only [List.map_cons, srcs, hc]) rfl
              · cases hv
            · cases hv
          · cases hv
        | nilS =>
          rw [hc] at hv
          simp only [viewAV] at hv
          cases kp with
          | grow T =>
            simp only at hv
            cases hv
            exact cons (s := none) (b := .digs T []) ⟨T, rfl⟩ (by unfold keptBoxes; simp only [List.map_cons, srcs, hc]) rfl
          | same => exact same (by unfold keptBoxes; simp only [List.map_cons, srcs, hc]) (noBox hv)
          | any => exact same (by unfold keptBoxes; simp only [List.map_cons, srcs, hc]) (noBox hv)
        | _ =>
          rw [hc] at hv
          simp only [viewAV] at hv
          exact same (by unfold keptBoxes; simp only [List.map_cons, srcs, hc]) (noBox hv)

theorem unview_tmps (hR : R na β0 w0 σ β a w) (hkb : ∀ i, some i ∈ kb → σ.box i ≠ .arena) (bs : List Box) : ∀ (keep : List (Nat × Keep)) (vals : List AV) (n : Nat) (tmps : List AV), view na σ keep = some vals → na + 2 ≤ n →
    Vs ⟨layBs na bs, viewβ na β kb, w⟩ tmps a.tmps.toList → (∀ (j : Nat) (s : Option Nat), (keptBoxes σ keep)[j]? = some s → kb[n + j - (na + 2)]? = some s) → (∀ (j : Nat) (b : Box), (boxesOf vals)[j]? = some b → layBs na bs (n + j) = b) →
    Vs ⟨layBs na bs, viewβ na β kb, w⟩ (unview n keep vals tmps) a.tmps.toList
  | [], vals, n, tmps, h, hn, hV, _, _ => by simp [view] at h; subst h; simpa [unview] using hV
  | (t, kp) :: keep, vals, n, tmps, h, hn, hV, hk, hb => by
    simp only [view] at h
    split at h
    · cases h
    · rename_i v hv
      split at h
      · cases h
      · rename_i vs hvs
        cases h
        have put : ∀ {c : AV}, (∀ u, a.tmps.toList[t]? = some u → V ⟨layBs na bs, viewβ na β kb, w⟩ c u) → Vs ⟨layBs na bs, viewβ na β kb, w⟩ (tmps.set t c) a.tmps.toList := by
          intro c hc
          refine Vs.of (by rw [List.length_set]; exact hV.length) fun i c' u h1 h2 => ?_
          rw [List.getElem?_set] at h1
          split at h1
          · rename_i e
            subst e
            split at h1
            · cases h1; exact hc u h2
            · cases h1
          · exact hV.at h1 h2
        have old : ∀ u, a.tmps.toList[t]? = some u → V ⟨σ.box, β, w⟩ (σ.tmps.getD t .junk) u := by
          intro u hu
          cases hc : σ.tmps[t]? with
          | none => simp [List.getD, hc, V]
          | some c => simp only [List.getD, hc, Option.getD_some]; exact hR.tmps.at hc hu
        have plain : ∀ {any : Bool} {c : AV}, σ.tmps.getD t .junk = c → AV.merge σ.box na any c = some v → keptBoxes σ ((t, kp) :: keep) = keptBoxes σ keep →
            Vs ⟨layBs na bs, viewβ na β kb, w⟩ (unview n ((t, kp) :: keep) (v :: vs) tmps) a.tmps.toList := by
          intro any c hc hm e1
          have hun : unview n ((t, kp) :: keep) (v :: vs) tmps = unview n keep vs (tmps.set t v) ∧ boxesOf (v :: vs) = boxesOf vs := by
            cases c <;> simp only [AV.merge] at hm <;> first | (cases hm; done) | skip
            all_goals
              (repeat' split at hm) <;> first | (cases hm; exact ⟨rfl, rfl⟩) | (cases hm; done)
          rw [hun.1]
          refine unview_tmps hR hkb bs keep vs n _ hvs hn (put fun u hu => ?_) (by rw [← e1]; exact hk) (by rw [← hun.2]; exact hb)
          have := old u hu
          rw [hc] at this
          exact merge_V hkb bs _ c v u this hm
        cases hc : σ.tmps.getD t .junk with
        | own b =>
          rw [hc] at hv
          simp only [viewAV] at hv
          split at hv
          · rename_i T l hbx
            cases hv
            have e1 : keptBoxes σ ((t, kp) :: keep) = some b :: keptBoxes σ keep := by unfold keptBoxes; simp only [List.map_cons, srcs, hc]
            have hkn := hk 0 (some b) (by rw [e1]; rfl)
            have hbn := hb 0 (.digs T l) rfl
            simp only [Nat.add_zero] at hkn hbn
            refine unview_tmps hR hkb bs keep vs (n + 1) _ hvs (by omega) (put fun u hu => ?_) (fun j s hs => ?_) (fun j b' hb' => ?_)
            · have := old u hu
              rw [hc] at this
              simp only [V] at this ⊢
              rw [hbn]
              refine ⟨by simp, this.2.1, fun T' l' hl => ?_⟩
              cases hl
              rcases this.2.2 T l hbx with h | ⟨blk, cap, q1, q2, q3, q4, q5⟩
              · exact .inl h
              · refine .inr ⟨blk, cap, ?_, q2, q3, q4, q5⟩
                show viewβ na β kb n blk
                unfold viewβ
                rw [if_neg (by omega), if_neg (by omega)]
                exact ⟨b, hkn, q1⟩
            · have := hk (j + 1) s (by rw [e1]; simpa using hs)
              rwa [show n + (j + 1) = n + 1 + j by omega] at this
            · have := hb (j + 1) b' (by show (Box.digs T l :: boxesOf vs)[j + 1]? = _; simpa using hb')
              rwa [show n + (j + 1) = n + 1 + j by omega] at this
          · cases hv
        | addr b off =>
          rw [hc] at hv
          simp only [viewAV] at hv
          split at hv
          · rename_i hoff
            split at hv
            · rename_i cs hbx
              split at hv
              · rename_i cs' hcs
                cases hv
                have e1 : keptBoxes σ ((t, kp) :: keep) = some b :: keptBoxes σ keep := by unfold keptBoxes; simp only [List.map_cons, srcs, hc]
                have hkn := hk 0 (some b) (by rw [e1]; rfl)
                have hbn := hb 0 (.cells cs') rfl
                simp only [Nat.add_zero] at hkn hbn
                refine unview_tmps hR hkb bs keep vs (n + 1) _ hvs (by omega) (put fun u hu => ?_) (fun j s hs => ?_) (fun j b' hb' => ?_)
                · have := old u hu
                  rw [hc] at this
                  simp only [V] at this ⊢
                  rw [hbn]
                  refine ⟨by simp, fun _ => ?_⟩
                  obtain ⟨blk, q1, q2⟩ := this.2 (by rw [hbx]; trivial)
                  refine ⟨blk, ?_, by rw [q2, hoff]⟩
                  show viewβ na β kb n blk
                  unfold viewβ
                  rw [if_neg (by omega), if_neg (by omega)]
                  exact ⟨b, hkn, q1⟩
                · have := hk (j + 1) s (by rw [e1]; simpa using hs)
                  rwa [show n + (j + 1) = n + 1 + j by omega] at this
                · have := hb (j + 1) b' (by show (Box.cells cs' :: boxesOf vs)[j + 1]? = _; simpa using hb')
                  rwa [show n + (j + 1) = n + 1 + j by omega] at this
              · cases hv
            · cases hv
          · cases hv
        | nilS =>
          rw [hc] at hv
          simp only [viewAV] at hv
          cases kp with
          | grow T =>
            simp only at hv
            cases hv
            have e1 : keptBoxes σ ((t, .grow T) :: keep) = none :: keptBoxes σ keep := by unfold keptBoxes; simp only [List.map_cons, srcs, hc]
            have hbn := hb 0 (.digs T []) rfl
            simp only [Nat.add_zero] at hbn
            refine unview_tmps hR hkb bs keep vs (n + 1) _ hvs (by omega) (put fun u hu => ?_) (fun j s hs => ?_) (fun j b' hb' => ?_)
            · have := old u hu
              rw [hc] at this
              simp only [V] at this ⊢
              rw [hbn]
              refine ⟨by simp, ⟨_, _, _, this⟩, fun T' l' hl => ?_⟩
              cases hl
              exact .inl ⟨this, rfl⟩
            · have := hk (j + 1) s (by rw [e1]; simpa using hs)
              rwa [show n + (j + 1) = n + 1 + j by omega] at this
            · have := hb (j + 1) b' (by show (Box.digs T [] :: boxesOf vs)[j + 1]? = _; simpa using hb')
              rwa [show n + (j + 1) = n + 1 + j by omega] at this
          | same => exact plain hc hv (by unfold keptBoxes; simp only [List.map_cons, srcs, hc])
          | any => exact plain hc hv (by unfold keptBoxes; simp only [List.map_cons, srcs, hc])
        | _ =>
          rw [hc] at hv
          simp only [viewAV] at hv
          exact plain hc hv (by unfold keptBoxes; simp only [List.map_cons, srcs, hc])

theorem nodup_spec {l : List Nat} (h : nodup l = true) : l.Nodup := by
  have key : ∀ l : List Nat, (dedup l).length ≤ l.length ∧ ((dedup l).length = l.length → l.Nodup) := by
    intro l
    induction l with
    | nil => simp [dedup]
    | cons x l ih =>
      unfold dedup
      split
      · refine ⟨by simp; omega, fun e => ?_⟩
        simp at e; omega
      · rename_i hx
        refine ⟨by simp; exact ih.1, fun e => ?_⟩
        rw [List.nodup_cons]
        exact ⟨by simpa using hx, ih.2 (by simpa using e)⟩
  exact (key l).2 (by unfold nodup at h; simpa using h)

theorem nodup_opt : ∀ {l : List (Option Nat)}, (l.filterMap id).Nodup → ∀ (i j x : Nat), l[i]? = some (some x) → l[j]? = some (some x) → i = j
  | [], _, i, j, x, h, _ => by simp at h
  | s :: l, hn, i, j, x, hi, hj => by
    have hn' : (l.filterMap id).Nodup := by
      cases s with
      | none => simpa using hn
      | some y => simp at hn; exact hn.2
    have hmem : ∀ k, l[k]? = some (some x) → x ∈ l.filterMap id := fun k hk => by
      rw [List.mem_filterMap]
      exact ⟨some x, List.mem_of_getElem? hk, rfl⟩
    cases i with
    | zero =>
      simp at hi
      subst hi
      cases j with
      | zero => rfl
      | succ j =>
        exfalso
        simp at hn hj
        exact absurd (hmem j hj) (by simpa using hn.1)
    | succ i =>
      cases j with
      | zero =>
        exfalso
        simp at hj
        subst hj
        simp at hn hi
        exact absurd (hmem i hi) (by simpa using hn.1)
      | succ j => have := nodup_opt hn' i j x (by simpa using hi) (by simpa using hj); omega

theorem kept_live : ∀ (keep : List (Nat × Keep)) (vals : List AV), view na σ keep = some vals → ∀ i, some i ∈ keptBoxes σ keep → (∃ T l, σ.box i = .digs T l) ∨ ∃ cs, σ.box i = .cells cs
  | [], vals, h, i, hi => by simp [keptBoxes, srcs] at hi
  | (t, kp) :: keep, vals, h, i, hi => by
    simp only [view] at h
    split at h
    · cases h
    · rename_i v hv
      split at h
      · cases h
      · rename_i vs hvs
        have ih := kept_live keep vs hvs i
        unfold keptBoxes at hi ih
        simp only [List.map_cons] at hi
        cases hc : σ.tmps.getD t .junk with
        | own b =>
          rw [hc] at hv
          simp only [viewAV] at hv
          simp only [srcs, hc] at hi
          rcases List.mem_cons.1 hi with h' | h'
          · cases h'
            split at hv
            · rename_i T l hb; exact .inl ⟨T, l, hb⟩
            · cases hv
          · exact ih h'
        | addr b off =>
          rw [hc] at hv
          simp only [viewAV] at hv
          simp only [srcs, hc] at hi
          rcases List.mem_cons.1 hi with h' | h'
          · cases h'
            split at hv
            · split at hv
              · rename_i cs hb; exact .inr ⟨cs, hb⟩
              · cases hv
            · cases hv
          · exact ih h'
        | nilS =>
          simp only [srcs, hc] at hi
          cases kp with
          | grow T => simp at hi; exact ih hi
          | same => exact ih hi
          | any => exact ih hi
        | _ => simp only [srcs, hc] at hi; exact ih hi

/-- the whole state, laid out anew -/
theorem R.relayout (hR : R na β0 w0 σ β a w) {keep : List (Nat × Keep)} {vals : List AV} (hv : view na σ keep = some vals) (hn : nodup ((keptBoxes σ keep).filterMap id) = true) :
    R na β0 w0 (layOut na σ.tmps.length keep vals) (viewβ na β (keptBoxes σ keep)) a w := by
  have hlive := kept_live keep vals hv
  have hkb : ∀ i, some i ∈ keptBoxes σ keep → σ.box i ≠ .arena := fun i hi => by
    rcases hlive i hi with ⟨T, l, h⟩ | ⟨cs, h⟩ <;> rw [h] <;> simp
  have hnd := nodup_opt (nodup_spec hn)
  obtain ⟨hlen, hkept⟩ := view_kept hR hkb (boxesOf vals) keep vals hv
  have hbox : (layOut na σ.tmps.length keep vals).box = layBs na (boxesOf vals) := rfl
  have hid : ∀ i x, na < i → viewβ na β (keptBoxes σ keep) i x → ∃ j, na < j ∧ β j x ∧ ((i = na + 1 ∧ some j ∉ keptBoxes σ keep) ∨ (na + 2 ≤ i ∧ (keptBoxes σ keep)[i - (na + 2)]? = some (some j))) := by
    intro i x hi hx
    unfold viewβ at hx
    rw [if_neg (by omega)] at hx
    split at hx
    · rename_i e
      obtain ⟨j, h1, h2, h3⟩ := hx
      exact ⟨j, h1, h3, .inl ⟨e, h2⟩⟩
    · obtain ⟨j, h1, h2⟩ := hx
      exact ⟨j, hR.na_lt (hkb j (List.mem_of_getElem? h1)), h2, .inr ⟨by omega, h1⟩⟩
  refine ⟨?_, hR.defers, fun i => ?_, fun i hi => ?_, fun i x hi hx => ?_, fun i x hi hx => ?_, fun i j x hi hj hx hy => ?_, fun i x hi hx => ?_, hR.grow, fun i x hi hx => by
    unfold viewβ at hx
    rw [if_pos hi] at hx
    exact hR.arg0 i x hi hx⟩
  · rw [hbox]
    refine unview_tmps hR hkb (boxesOf vals) keep vals (na + 2) _ hv (Nat.le_refl _) (Vs.of (by rw [List.length_replicate]; exact hR.tmps.length) fun i c v h1 h2 => ?_) (fun j s hs => ?_) (fun j b hb => ?_)
    · rw [List.getElem?_replicate] at h1
      split at h1
      · cases h1; simp only [V]
      · cases h1
    · rwa [show na + 2 + j - (na + 2) = j by omega]
    · rw [layBs_high (by omega), show na + 2 + j - (na + 2) = j by omega]
      simp [List.getD, hb]
  · rw [hbox]
    by_cases hi : i < na + 2
    · rw [layBs_low hi]; trivial
    · rw [layBs_high (by omega)]
      cases hb : (boxesOf vals)[i - (na + 2)]? with
      | none => simp only [List.getD, hb]; trivial
      | some b =>
        have hlt : i - (na + 2) < (keptBoxes σ keep).length := by rw [hlen]; exact (List.getElem?_eq_some_iff.1 hb).1
        have hs : (keptBoxes σ keep)[i - (na + 2)]? = some ((keptBoxes σ keep)[i - (na + 2)]) := List.getElem?_eq_getElem hlt
        have hk := hkept _ _ b hs hb
        have hβ : ∀ x, viewβ na β (keptBoxes σ keep) i x ↔ ∃ j, (keptBoxes σ keep)[i - (na + 2)] = some j ∧ β j x := by
          intro x
          unfold viewβ
          rw [if_neg (by omega), if_neg (by omega), hs]
          constructor
          · rintro ⟨j, h1, h2⟩; exact ⟨j, Option.some.inj h1, h2⟩
          · rintro ⟨j, h1, h2⟩; exact ⟨j, by rw [h1], h2⟩
        simp only [List.getD, hb, Option.getD_some]
        generalize (keptBoxes σ keep)[i - (na + 2)] = s at hk hβ
        cases s with
        | none =>
          obtain ⟨T, rfl⟩ := hk
          have hno : ∀ x, ¬ viewβ na β (keptBoxes σ keep) i x := fun x hx => by
            obtain ⟨j, h, _⟩ := (hβ x).1 hx
            cases h
          exact ⟨fun x y hx _ => absurd hx (hno x), ⟨by simp, by simp⟩, fun x hx => absurd hx (hno x)⟩
        | some j =>
          have hβ' : ∀ x, viewβ na β (keptBoxes σ keep) i x ↔ β j x := fun x => by
            rw [hβ x]
            constructor
            · rintro ⟨j', h1, h2⟩; cases h1; exact h2
            · intro h; exact ⟨j, rfl, h⟩
          have hok := hR.boxes j
          rcases hk with ⟨T, l, h1, rfl⟩ | ⟨cs, cs', h1, rfl, h2⟩
          · rw [h1] at hok
            obtain ⟨q1, q2, q3⟩ := hok
            exact ⟨fun x y hx hy => q1 x y ((hβ' x).1 hx) ((hβ' y).1 hy), q2, fun x hx => q3 x ((hβ' x).1 hx)⟩
          · rw [h1] at hok
            obtain ⟨blk, q1, vs, T, q2, q3⟩ := hok
            exact ⟨blk, fun x => (hβ' x).trans (q1 x), vs, T, q2, h2 _ q3⟩
  · rw [hbox, layBs_low (by omega)]
  · unfold viewβ at hx
    rw [if_pos hi] at hx
    exact hR.old i x hi hx
  · obtain ⟨j, h1, h2, _⟩ := hid i x hi hx
    exact hR.new j x h1 h2
  · obtain ⟨i', h1, h2, h3⟩ := hid i x hi hx
    obtain ⟨j', k1, k2, k3⟩ := hid j x hj hy
    have e := hR.disj i' j' x h1 k1 h2 k2
    subst e
    rcases h3 with ⟨e1, n1⟩ | ⟨e1, n1⟩ <;> rcases k3 with ⟨e2, n2⟩ | ⟨e2, n2⟩
    · omega
    · exact absurd (List.mem_of_getElem? n2) n1
    · exact absurd (List.mem_of_getElem? n1) n2
    · have := hnd _ _ _ n1 n2
      omega
  · rw [hbox] at hi
    have hi' : na + 2 ≤ i := by
      rcases Nat.lt_or_ge i (na + 2) with h | h
      · rw [layBs_low h] at hi; cases hi
      · exact h
    rw [layBs_high hi'] at hi
    obtain ⟨j, h1, h2, h3⟩ := hid i x (by omega) hx
    rcases h3 with ⟨e1, _⟩ | ⟨_, n1⟩
    · omega
    · have hlt : i - (na + 2) < (boxesOf vals).length := by rw [← hlen]; exact (List.getElem?_eq_some_iff.1 n1).1
      have hb : (boxesOf vals)[i - (na + 2)]? = some (boxesOf vals)[i - (na + 2)] := List.getElem?_eq_getElem hlt
      have hk := hkept _ _ _ n1 hb
      simp only [List.getD, hb, Option.getD_some] at hi
      rcases hk with ⟨T, l, _, e⟩ | ⟨cs, cs', _, e, _⟩ <;> rw [e] at hi <;> cases hi

end
end Go.AI
