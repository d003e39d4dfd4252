/- Calls: contracts, arguments as the callee sees them, results as the caller gets them. -/
import Derived.Test.YtnhbdcnnanfacaaDoorAIop8
namespace Go.AI
open Go Go.RowKit
set_option linter.unusedVariables false
set_option linter.unusedSimpArgs false

def Enters (P : Program) (f : Nat) : Prop := ∀ args w, (callFunc f args).run P w = .ok (.enter f args) w

def argBs (na : Nat) : Nat → Box := fun i => if i ≤ na then .arena else .unborn
def resβ (w w' : World) (β : Nat → Nat → Prop) : Nat → Nat → Prop := fun i x => if i = 0 then w.heap.size ≤ x ∧ x < w'.heap.size else β i x

/-- a function, called with these arguments, returns this -/
structure Contract (P : Program) (Inv : World → Prop) (f : Nat) (args : List AV) (res : AV) : Prop where
  enters : Enters P f
  calls : ∀ (w : World) (cargs : List Value) (β : Nat → Nat → Prop), Inv w → (∀ i x, β i x → x < w.heap.size) → Vs ⟨argBs args.length, β, w⟩ args cargs →
    Calls P f cargs.toArray w fun e w' => ∃ v, e = .returned v ∧ Grow w w' ∧ V ⟨fun _ => .arena, resβ w w' β, w'⟩ res v

def PhiOk (P : Program) (Inv : World → Prop) (Φ : Nat → List AV → Option Spec) : Prop := ∀ f args s, Φ f args = some s → andO s.pre True → Contract P Inv f args s.res

theorem mapO_spec {α β : Type} {f : α → Option β} : ∀ {l : List α} {r : List β}, mapO f l = some r → r.length = l.length ∧ ∀ (i : Nat) (x : α), l[i]? = some x → ∃ y, f x = some y ∧ r[i]? = some y
  | [], r, h => by simp [mapO] at h; subst h; simp
  | x :: l, r, h => by
    unfold mapO at h
    split at h
    · cases h
    · rename_i y hy
      split at h
      · cases h
      · rename_i r' hr
        cases h
        obtain ⟨h1, h2⟩ := mapO_spec hr
        refine ⟨by simp [h1], fun i z hi => ?_⟩
        cases i with
        | zero => simp at hi; subst hi; exact ⟨y, hy, by simp⟩
        | succ i => obtain ⟨u, hu1, hu2⟩ := h2 i z (by simpa using hi); exact ⟨u, hu1, by simpa using hu2⟩

theorem Vs.mapO {C C' : Ctx} {f : AV → Option AV} {cs cs' : List AV} {vs : List Value} (h : Vs C cs vs) (hf : mapO f cs = some cs') (k : ∀ c ∈ cs, ∀ c', f c = some c' → ∀ v, V C c v → V C' c' v) : Vs C' cs' vs := by
  obtain ⟨h1, h2⟩ := mapO_spec hf
  refine Vs.of (by rw [h1]; exact h.length) fun i c' v hc hv => ?_
  obtain ⟨c, hc1, hc2⟩ := h.getV hv
  obtain ⟨c'', hy1, hy2⟩ := h2 i c hc1
  rw [hc] at hy2
  cases hy2
  exact k c (List.mem_of_getElem? hc1) _ hy1 v hc2

theorem mem_dedup {x : Nat} : ∀ {l : List Nat}, x ∈ dedup l ↔ x ∈ l
  | [] => by simp [dedup]
  | y :: l => by
    unfold dedup
    split
    · rename_i h
      rw [mem_dedup, List.mem_cons]
      refine ⟨.inr, fun hx => ?_⟩
      rcases hx with rfl | hx
      · simpa using h
      · exact hx
    · rw [List.mem_cons, List.mem_cons, mem_dedup]

theorem nodup_dedup : ∀ (l : List Nat), (dedup l).Nodup
  | [] => by simp [dedup]
  | y :: l => by
    unfold dedup
    split
    · exact nodup_dedup l
    · rename_i h
      rw [List.nodup_cons]
      refine ⟨fun hm => h ?_, nodup_dedup l⟩
      simpa using mem_dedup.1 hm

section
variable {P : Program} {na : Nat} {β0 : Nat → Nat → Prop} {w0 : World} {σ : St} {β : Nat → Nat → Prop} {a : Act} {w : World} {o : Oper} {bx : Nat → Box} {Φ : Nat → List AV → Option Spec} {dr : Bool} {n : Nat} {e : Eff}

theorem asArg_V (hR : R na β0 w0 σ β a w) (hb : Sub bx σ.box) {i : Nat} {C' : Ctx} (hw : C'.w = w) (hbi : C'.bs i = .arena) : ∀ (k : Nat) (c c' : AV) (v : Value), V ⟨σ.box, β, w⟩ c v → AV.asArg bx i k c = some c' →
    (∀ j ∈ AV.ids bx k c, ∀ x, β j x → C'.β i x) → V C' c' v
  | 0, c, c', v, _, h, _ => by simp [AV.asArg] at h
  | k + 1, c, c', v, hV, h, hβ => by
    have hborn : C'.born [i] := fun j hj => by simp at hj; subst hj; rw [hbi]; simp
    have hin : ∀ (p : List Nat) (hp : ∀ j ∈ p, j ∈ AV.ids bx (k + 1) c) (b : Nat), Ctx.inP ⟨σ.box, β, w⟩ p b → C'.inP [i] b ∧ C'.w.heap[b]? = w.heap[b]? := by
      intro p hp b ⟨j, hj, hx⟩
      exact ⟨⟨i, by simp, hβ j (hp j hj) b hx⟩, by rw [hw]⟩
    have sub : ∀ (cs cs' : List AV) (vs : List Value), Vs ⟨σ.box, β, w⟩ cs vs → mapO (AV.asArg bx i k) cs = some cs' → (∀ d ∈ cs, ∀ j ∈ AV.ids bx k d, j ∈ AV.ids bx (k + 1) c) → Vs C' cs' vs := by
      intro cs cs' vs hvs hm hids
      exact hvs.mapO hm fun d hd d' hd' u hu => asArg_V hR hb hw hbi k d d' u hu hd' fun j hj x hx => hβ j (hids d hd j hj) x hx
    simp only [AV.asArg] at h
    split at h
    · cases h; simp only [V]
    · cases h; simp only [V] at hV ⊢; exact hV
    · cases h; simp only [V] at hV ⊢; exact hV
    · cases h
      simp only [V] at hV ⊢
      subst hV
      exact ⟨hborn, ⟨by simp, by simp⟩, none, 0, by simp, fun _ => .inl ⟨rfl, rfl⟩⟩
    · rename_i p l
      split at h
      · rename_i har
        cases h
        simp only [V] at hV ⊢
        obtain ⟨_, hok, base, cap, rfl, hd⟩ := hV
        exact ⟨hborn, hok, base, cap, rfl, fun _ => (hd (alive_of hb β w har)).mono (hin p (fun j hj => by simpa [AV.ids] using hj))⟩
      · cases h
    · rename_i b
      split at h
      · rename_i T l hbx
        cases h
        have hσ := hb.digs hbx
        have hbok := hR.boxes b
        rw [hσ] at hbok
        simp only [V] at hV ⊢
        rcases hV.2.2 T l hσ with ⟨rfl, rfl⟩ | ⟨blk, cap, g1, rfl, g2, g3, cs, g4, g5⟩
        · exact ⟨hborn, hbok.2.1, none, 0, by simp, fun _ => .inl ⟨rfl, rfl⟩⟩
        · obtain ⟨cs', hc', h4, h5⟩ := hbok.2.2 blk g1
          have hc'' : w.heap[blk]? = some (.cells cs' T (0, 0)) := hc'
          refine ⟨hborn, hbok.2.1, _, _, rfl, fun _ => .inr ⟨blk, 0, cs', T, (0, 0), rfl, ⟨i, by simp, hβ b (by simp [AV.ids]) blk g1⟩, by rw [hw]; exact hc'', g2, fun j x hj => ?_⟩⟩
          rw [Nat.zero_add]
          exact h5 j x hj
      · cases h
    · rename_i p m l
      split at h
      · rename_i har
        split at h
        · rename_i l' hl
          cases h
          simp only [V] at hV ⊢
          obtain ⟨_, hlen, hm, base, cap, us, rfl, hus, hsz, hd⟩ := hV
          have hl' := (mapO_spec hl).1
          refine ⟨hborn, by omega, hm, base, cap, us, by rw [hl'], sub l l' us hus hl (fun d hd j hj => ?_), hsz, fun _ => (hd (alive_of hb β w har)).mono (hin p (fun j hj => by simp [AV.ids, hj]))⟩
          simp only [AV.ids, List.mem_append, List.mem_flatMap]
          exact .inr ⟨d, hd, hj⟩
        · cases h
      · cases h
    · rename_i cs
      split at h
      · rename_i cs' hcs
        cases h
        simp only [V] at hV ⊢
        obtain ⟨vs, rfl, hvs⟩ := hV
        refine ⟨vs, rfl, sub cs cs' vs hvs hcs fun d hd j hj => ?_⟩
        simp only [AV.ids, List.mem_flatMap]
        exact ⟨d, hd, hj⟩
      · cases h
    · rename_i p cs
      split at h
      · rename_i har
        split at h
        · rename_i cs' hcs
          cases h
          simp only [V] at hV ⊢
          obtain ⟨_, vs, hvs, b, off, rfl, hd⟩ := hV
          have hd' := hd (alive_of hb β w har)
          refine ⟨hborn, vs, sub cs cs' vs hvs hcs (fun d hd j hj => ?_), b, off, rfl, fun _ => ⟨(hin p (fun j hj => by simp [AV.ids, hj]) b hd'.1).1, by rw [hw]; exact hd'.2⟩⟩
          simp only [AV.ids, List.mem_append, List.mem_flatMap]
          exact .inr ⟨d, hd, hj⟩
        · cases h
      · cases h
    · rename_i b off
      split at h
      · rename_i cs hbx
        split at h
        · rename_i cs' hcs
          cases h
          have hσ := hb.cells hbx
          have hbok := hR.boxes b
          rw [hσ] at hbok
          obtain ⟨blk', h1, vs, T, h2, h3⟩ := hbok
          simp only [V] at hV ⊢
          obtain ⟨blk, hβb, rfl⟩ := hV.2 (by rw [hσ]; trivial)
          have hbb : blk = blk' := (h1 blk).1 hβb
          subst hbb
          have h2' : w.heap[blk]? = some (.cells vs T (0, 0)) := h2
          refine ⟨hborn, vs.toList.drop off, sub _ cs' _ (h3.drop off) hcs (fun d hd j hj => ?_), blk, off, rfl, fun _ => ⟨⟨i, by simp, hβ b (by simp [AV.ids, hbx]) blk hβb⟩, fun j u hj => ?_⟩⟩
          · simp only [AV.ids, hbx, List.mem_cons, List.mem_flatMap]
            exact .inr ⟨d, hd, hj⟩
          · rw [hw, cell?_of_block h2']
            rw [List.getElem?_drop] at hj
            simpa using hj
        · cases h
      · cases h
    · rename_i f caps
      split at h
      · rename_i cs' hcs
        cases h
        simp only [V] at hV ⊢
        obtain ⟨vs, rfl, hvs⟩ := hV
        refine ⟨vs, rfl, sub caps cs' vs hvs hcs fun d hd j hj => ?_⟩
        simp only [AV.ids, List.mem_flatMap]
        exact ⟨d, hd, hj⟩
      · cases h
    · cases h

theorem asArgsFrom_V (hR : R na β0 w0 σ β a w) (hb : Sub bx σ.box) {C' : Ctx} (hw : C'.w = w) : ∀ (cs : List AV) (vs : List Value) (i : Nat) (as : List AV) (ps : List (List Nat)), Vs ⟨σ.box, β, w⟩ cs vs →
    asArgsFrom bx i cs = some (as, ps) → (∀ j, i ≤ j → j < i + cs.length → C'.bs j = .arena) → (∀ j p, ps[j]? = some p → ∀ m ∈ p, ∀ x, β m x → C'.β (i + j) x) →
    as.length = cs.length ∧ ps.length = cs.length ∧ Vs C' as vs
  | [], [], i, as, ps, _, h, _, _ => by
    simp [asArgsFrom] at h
    obtain ⟨rfl, rfl⟩ := h
    simp [Vs]
  | c :: cs, v :: vs, i, as, ps, hV, h, hbs, hβ => by
    unfold asArgsFrom at h
    split at h
    · cases h
    · rename_i c' hc
      split at h
      · cases h
      · rename_i cs' ps' hcs
        cases h
        simp only [Vs] at hV
        obtain ⟨h1, h2, h3⟩ := asArgsFrom_V hR hb hw cs vs (i + 1) cs' ps' hV.2 hcs (fun j hj1 hj2 => hbs j (by omega) (by simp; omega)) (fun j p hp m hm x hx => by
          have := hβ (j + 1) p (by simpa using hp) m hm x hx
          rwa [show i + (j + 1) = i + 1 + j by omega] at this)
        refine ⟨by simp [h1], by simp [h2], ?_⟩
        simp only [Vs]
        refine ⟨asArg_V hR hb hw (hbs i (Nat.le_refl _) (by simp)) 8 c c' v hV.1 hc fun j hj x hx => ?_, h3⟩
        have := hβ 0 (dedup (AV.ids bx 8 c)) (by simp) j (mem_dedup.2 hj) x hx
        simpa using this
  | [], _ :: _, _, _, _, hV, _, _, _ => by simp only [Vs] at hV
  | _ :: _, [], _, _, _, hV, _, _, _ => by simp only [Vs] at hV

mutual
theorem relab_V {C C' : Ctx} (hC : ∀ i, C.bs i = .arena) (hw : C'.w = C.w) (g : Nat → List Nat) : ∀ (c : AV) (v : Value), V C c v →
    (∀ j ∈ AV.names c, (∀ x, C.β j x → ∃ i ∈ g j, C'.β i x) ∧ ∀ i ∈ g j, C'.bs i ≠ .unborn) → V C' (AV.relab g c) v
  | .junk, _, _, _ => by simp only [AV.relab, V]
  | .num .., _, hV, _ => by simp only [AV.relab, V] at hV ⊢; exact hV
  | .bool _, _, hV, _ => by simp only [AV.relab, V] at hV ⊢; exact hV
  | .nilS, _, hV, _ => by simp only [AV.relab, V] at hV ⊢; exact hV
  | .dig p l, _, hV, h => by
    simp only [AV.relab, V] at hV ⊢
    obtain ⟨_, hok, base, cap, rfl, hd⟩ := hV
    refine ⟨fun i hi => ?_, hok, base, cap, rfl, fun _ => (hd (fun i _ => hC i)).mono fun b hb => ?_⟩
    · obtain ⟨j, hj, hi⟩ := List.mem_flatMap.1 (mem_dedup.1 hi)
      exact (h j (by simpa [AV.names] using hj)).2 i hi
    · obtain ⟨j, hj, hx⟩ := hb
      obtain ⟨i, hi, hxi⟩ := (h j (by simpa [AV.names] using hj)).1 b hx
      exact ⟨⟨i, mem_dedup.2 (List.mem_flatMap.2 ⟨j, hj, hi⟩), hxi⟩, by rw [hw]⟩
  | .vec p n l, _, hV, h => by
    simp only [AV.relab, V] at hV ⊢
    obtain ⟨_, hlen, hn, base, cap, us, rfl, hus, hsz, hd⟩ := hV
    have hll : (AV.relabs g l).length = l.length := relabs_length g l
    refine ⟨fun i hi => ?_, by omega, hn, base, cap, us, by rw [hll], relabs_V hC hw g l us hus (fun j hj => h j (by simp [AV.names, hj])), hsz, fun _ => (hd (fun i _ => hC i)).mono fun b hb => ?_⟩
    · obtain ⟨j, hj, hi⟩ := List.mem_flatMap.1 (mem_dedup.1 hi)
      exact (h j (by simp [AV.names, hj])).2 i hi
    · obtain ⟨j, hj, hx⟩ := hb
      obtain ⟨i, hi, hxi⟩ := (h j (by simp [AV.names, hj])).1 b hx
      exact ⟨⟨i, mem_dedup.2 (List.mem_flatMap.2 ⟨j, hj, hi⟩), hxi⟩, by rw [hw]⟩
  | .agg cs, _, hV, h => by
    simp only [AV.relab, V] at hV ⊢
    obtain ⟨vs, rfl, hvs⟩ := hV
    exact ⟨vs, rfl, relabs_V hC hw g cs vs hvs (fun j hj => h j (by simpa [AV.names] using hj))⟩
  | .tup cs, _, hV, h => by
    simp only [AV.relab, V] at hV ⊢
    obtain ⟨vs, rfl, hvs⟩ := hV
    exact ⟨vs, rfl, relabs_V hC hw g cs vs hvs (fun j hj => h j (by simpa [AV.names] using hj))⟩
  | .addr .., _, _, _ => by simp only [AV.relab, V]
  | .own _, _, _, _ => by simp only [AV.relab, V]
  | .cref .., _, _, _ => by simp only [AV.relab, V]
  | .fn .., _, _, _ => by simp only [AV.relab, V]
  | .grown .., _, _, _ => by simp only [AV.relab, V]
  | .boxv _, _, _, _ => by simp only [AV.relab, V]
theorem relabs_V {C C' : Ctx} (hC : ∀ i, C.bs i = .arena) (hw : C'.w = C.w) (g : Nat → List Nat) : ∀ (cs : List AV) (vs : List Value), Vs C cs vs →
    (∀ j ∈ AV.namess cs, (∀ x, C.β j x → ∃ i ∈ g j, C'.β i x) ∧ ∀ i ∈ g j, C'.bs i ≠ .unborn) → Vs C' (AV.relabs g cs) vs
  | [], [], _, _ => by simp only [AV.relabs, Vs]
  | c :: cs, v :: vs, hV, h => by
    simp only [AV.relabs, Vs] at hV ⊢
    exact ⟨relab_V hC hw g c v hV.1 (fun j hj => h j (by simp [AV.namess, hj])), relabs_V hC hw g cs vs hV.2 (fun j hj => h j (by simp [AV.namess, hj]))⟩
  | [], _ :: _, hV, _ => by simp only [Vs] at hV
  | _ :: _, [], hV, _ => by simp only [Vs] at hV
theorem relabs_length (g : Nat → List Nat) : ∀ (cs : List AV), (AV.relabs g cs).length = cs.length
  | [] => rfl
  | _ :: cs => by simp [AV.relabs, relabs_length g cs]
end

end
end Go.AI
