/- What an abstract value says of a value of the model, in a world; and what that survives. -/
import Derived.Test.YtnhbdcnnanfacaaDoorAIev
namespace Go.AI
open Go Go.RowKit
set_option linter.unusedVariables false
set_option linter.unusedSimpArgs false

structure Ctx where
  bs : Nat → Box
  β : Nat → Nat → Prop
  w : World

def Ctx.alive (C : Ctx) (p : List Nat) : Prop := ∀ i ∈ p, C.bs i = .arena
def Ctx.born (C : Ctx) (p : List Nat) : Prop := ∀ i ∈ p, C.bs i ≠ .unborn
def Ctx.inP (C : Ctx) (p : List Nat) (b : Nat) : Prop := ∃ i ∈ p, C.β i b

def DigAt (w : World) (inP : Nat → Prop) (base : Option Addr) (cap : Nat) (l : List Nat) : Prop :=
  (base = none ∧ l = []) ∨
  ∃ b off cells T fr, base = some ⟨b, off, none⟩ ∧ inP b ∧ w.heap[b]? = some (.cells cells T fr) ∧ l.length ≤ cap ∧
    ∀ (j x : Nat), l[j]? = some x → cells[off + j]? = some (.int .u32 (x : Int))

def okDig (l : List Nat) : Prop := l.length ≤ 2 ^ 45 ∧ ∀ x ∈ l, x < 2 ^ 32

def Box.live : Box → Prop
  | .cells _ | .digs .. => True
  | _ => False

def VecAt (w : World) (inP : Nat → Prop) (n : Nat) (base : Option Addr) (cap : Nat) (us : List Value) : Prop :=
  us = [] ∨ ∃ b off, base = some ⟨b, off, none⟩ ∧ inP b ∧ us.length ≤ cap ∧
    ∀ (i : Nat) (u : Value) (j : Nat) (x : Value), us[i]? = some u → u.cells[j]? = some x → w.cell? ⟨b, off + i * n + j, none⟩ = some x

mutual
def V (C : Ctx) : AV → Value → Prop
  | .junk, _ => True
  | .num k n, v => v = .int k n ∧ k.min ≤ n ∧ n ≤ k.max
  | .bool b, v => v = .bool b
  | .nilS, v => v = .slice none 0 0
  | .dig p l, v => C.born p ∧ okDig l ∧ ∃ base cap, v = .slice base l.length cap ∧ (C.alive p → DigAt C.w (C.inP p) base cap l)
  | .own b, v => C.bs b ≠ .unborn ∧ (∃ base n cap, v = .slice base n cap) ∧ ∀ T l, C.bs b = .digs T l → (v = .slice none 0 0 ∧ l = []) ∨
      ∃ blk cap, C.β b blk ∧ v = .slice (some ⟨blk, 0, none⟩) l.length cap ∧ l.length ≤ cap ∧ cap ≤ maxLen ∧ ∃ cs, C.w.heap[blk]? = some (.cells cs T (0, 0)) ∧ cap = cs.size
  | .vec p n l, v => C.born p ∧ l.length ≤ 2 ^ 45 ∧ 0 < n ∧ ∃ base cap us, v = .slice base l.length cap ∧ Vs C l us ∧ (∀ u ∈ us, u.cells.size = n) ∧
      (C.alive p → VecAt C.w (C.inP p) n base cap us)
  | .agg cs, v => ∃ vs : List Value, v = .agg vs.toArray ∧ Vs C cs vs
  | .tup cs, v => ∃ vs : List Value, v = .tuple vs.toArray ∧ Vs C cs vs
  | .addr b off, v => C.bs b ≠ .unborn ∧ ((C.bs b).live → ∃ blk, C.β b blk ∧ v = .pointer (some ⟨blk, off, none⟩))
  | .cref p cs, v => C.born p ∧ ∃ vs : List Value, Vs C cs vs ∧ ∃ b off, v = .pointer (some ⟨b, off, none⟩) ∧
      (C.alive p → C.inP p b ∧ ∀ (j : Nat) (u : Value), vs[j]? = some u → C.w.cell? ⟨b, off + j, none⟩ = some u)
  | .fn f caps, v => ∃ vs : List Value, v = .func (.func f) #[] vs.toArray ∧ Vs C caps vs
  | .grown .., _ => False
  | .boxv _, _ => False
def Vs (C : Ctx) : List AV → List Value → Prop
  | [], [] => True
  | c :: cs, v :: vs => V C c v ∧ Vs C cs vs
  | _, _ => False
end

/-- what was known in C is known in C' -/
structure Le (C C' : Ctx) : Prop where
  born : ∀ i, C.bs i ≠ .unborn → C'.bs i ≠ .unborn
  arena : ∀ i, C.bs i ≠ .unborn → C'.bs i = .arena → C.bs i = .arena ∧ ∀ x, C.β i x → C'.β i x ∧ C'.w.heap[x]? = C.w.heap[x]?
  digs : ∀ i T l', C.bs i ≠ .unborn → C'.bs i = .digs T l' → ∃ l, C.bs i = .digs T l ∧ l.length = l'.length ∧ ∀ x, C.β i x → C'.β i x ∧
    ∀ cs, C.w.heap[x]? = some (.cells cs T (0, 0)) → ∃ cs', C'.w.heap[x]? = some (.cells cs' T (0, 0)) ∧ cs'.size = cs.size
  cells : ∀ i c', C.bs i ≠ .unborn → C'.bs i = .cells c' → ∃ c, C.bs i = .cells c ∧ ∀ x, C.β i x → C'.β i x

theorem Le.alive {C C' : Ctx} (h : Le C C') {p : List Nat} (hb : C.born p) (ha : C'.alive p) : C.alive p :=
  fun i hi => (h.arena i (hb i hi) (ha i hi)).1

theorem Le.inP {C C' : Ctx} (h : Le C C') {p : List Nat} (hb : C.born p) (ha : C'.alive p) {b : Nat} (hp : C.inP p b) : C'.inP p b ∧ C'.w.heap[b]? = C.w.heap[b]? := by
  obtain ⟨i, hi, hx⟩ := hp
  obtain ⟨_, h2⟩ := h.arena i (hb i hi) (ha i hi)
  exact ⟨⟨i, hi, (h2 b hx).1⟩, (h2 b hx).2⟩

theorem Le.bornP {C C' : Ctx} (h : Le C C') {p : List Nat} (hb : C.born p) : C'.born p := fun i hi => h.born i (hb i hi)

theorem cell?_of_heap {w w' : World} {b o : Nat} (h : w'.heap[b]? = w.heap[b]?) : w'.cell? ⟨b, o, none⟩ = w.cell? ⟨b, o, none⟩ := by
  simp only [World.cell?, h]

theorem DigAt.mono {w w' : World} {f g : Nat → Prop} {base : Option Addr} {cap : Nat} {l : List Nat} (h : DigAt w f base cap l) (hf : ∀ b, f b → g b ∧ w'.heap[b]? = w.heap[b]?) : DigAt w' g base cap l := by
  rcases h with h | ⟨b, off, cells, T, fr, h1, h2, h3, h4, h5⟩
  · exact .inl h
  · exact .inr ⟨b, off, cells, T, fr, h1, (hf b h2).1, (hf b h2).2.trans h3, h4, h5⟩

theorem VecAt.mono {w w' : World} {f g : Nat → Prop} {n : Nat} {base : Option Addr} {cap : Nat} {us : List Value} (h : VecAt w f n base cap us) (hf : ∀ b, f b → g b ∧ w'.heap[b]? = w.heap[b]?) : VecAt w' g n base cap us := by
  rcases h with h | ⟨b, off, h1, h2, h3, h4⟩
  · exact .inl h
  · exact .inr ⟨b, off, h1, (hf b h2).1, h3, fun i u j x hi hj => (cell?_of_heap (hf b h2).2).trans (h4 i u j x hi hj)⟩

mutual
theorem V.mono {C C' : Ctx} (h : Le C C') : ∀ (av : AV) (v : Value), V C av v → V C' av v
  | .junk, _, _ => by simp only [V]
  | .num .., _, hv => by simp only [V] at hv ⊢; exact hv
  | .bool _, _, hv => by simp only [V] at hv ⊢; exact hv
  | .nilS, _, hv => by simp only [V] at hv ⊢; exact hv
  | .dig p l, _, hv => by
    simp only [V] at hv ⊢
    obtain ⟨hb, hok, base, cap, rfl, hd⟩ := hv
    exact ⟨h.bornP hb, hok, base, cap, rfl, fun ha => (hd (h.alive hb ha)).mono fun b hp => h.inP hb ha hp⟩
  | .own b, v, hv => by
    simp only [V] at hv ⊢
    obtain ⟨hb, hsl, hv⟩ := hv
    refine ⟨h.born b hb, hsl, fun T l' hl' => ?_⟩
    obtain ⟨l, hl, hlen, hx⟩ := h.digs b T l' hb hl'
    rcases hv T l hl with ⟨h1, h2⟩ | ⟨blk, cap, h1, h2, h3, h6, cs, h4, h5⟩
    · subst h2
      exact .inl ⟨h1, List.eq_nil_of_length_eq_zero (by simpa using hlen.symm)⟩
    · obtain ⟨hβ, hc⟩ := hx blk h1
      obtain ⟨cs', hc', hsz⟩ := hc cs h4
      exact .inr ⟨blk, cap, hβ, by rw [h2, hlen], by omega, h6, cs', hc', by omega⟩
  | .vec p n l, _, hv => by
    simp only [V] at hv ⊢
    obtain ⟨hb, hlen, hn, base, cap, us, rfl, hus, hsz, hd⟩ := hv
    exact ⟨h.bornP hb, hlen, hn, base, cap, us, rfl, Vs.mono h _ _ hus, hsz, fun ha => (hd (h.alive hb ha)).mono fun b hp => h.inP hb ha hp⟩
  | .agg cs, _, hv => by
    simp only [V] at hv ⊢
    obtain ⟨vs, rfl, hvs⟩ := hv
    exact ⟨vs, rfl, Vs.mono h _ _ hvs⟩
  | .tup cs, _, hv => by
    simp only [V] at hv ⊢
    obtain ⟨vs, rfl, hvs⟩ := hv
    exact ⟨vs, rfl, Vs.mono h _ _ hvs⟩
  | .addr b off, _, hv => by
    simp only [V] at hv ⊢
    obtain ⟨hb, hv⟩ := hv
    refine ⟨h.born b hb, fun hl => ?_⟩
    have : (C.bs b).live ∧ ∀ x, C.β b x → C'.β b x := by
      cases hc : C'.bs b with
      | unborn => rw [hc] at hl; exact hl.elim
      | dead => rw [hc] at hl; exact hl.elim
      | arena => rw [hc] at hl; exact hl.elim
      | cells c' => obtain ⟨c, h1, h2⟩ := h.cells b c' hb hc; rw [h1]; exact ⟨trivial, h2⟩
      | digs T l' => obtain ⟨l, h1, _, h2⟩ := h.digs b T l' hb hc; rw [h1]; exact ⟨trivial, fun x hx => (h2 x hx).1⟩
    obtain ⟨blk, h1, h2⟩ := hv this.1
    exact ⟨blk, this.2 blk h1, h2⟩
  | .cref p cs, _, hv => by
    simp only [V] at hv ⊢
    obtain ⟨hb, vs, hvs, b, off, rfl, hd⟩ := hv
    refine ⟨h.bornP hb, vs, Vs.mono h _ _ hvs, b, off, rfl, fun ha => ?_⟩
    obtain ⟨h1, h2⟩ := hd (h.alive hb ha)
    obtain ⟨h3, h4⟩ := h.inP hb ha h1
    exact ⟨h3, fun j u hj => (cell?_of_heap h4).trans (h2 j u hj)⟩
  | .fn f caps, _, hv => by
    simp only [V] at hv ⊢
    obtain ⟨vs, rfl, hvs⟩ := hv
    exact ⟨vs, rfl, Vs.mono h _ _ hvs⟩
  | .grown .., _, hv => by simp only [V] at hv
  | .boxv _, _, hv => by simp only [V] at hv
theorem Vs.mono {C C' : Ctx} (h : Le C C') : ∀ (cs : List AV) (vs : List Value), Vs C cs vs → Vs C' cs vs
  | [], [], _ => by simp only [Vs]
  | c :: cs, v :: vs, hv => by
    simp only [Vs] at hv ⊢
    exact ⟨V.mono h c v hv.1, Vs.mono h cs vs hv.2⟩
  | [], _ :: _, hv => by simp only [Vs] at hv
  | _ :: _, [], hv => by simp only [Vs] at hv
end

theorem Vs.length {C : Ctx} : ∀ {cs : List AV} {vs : List Value}, Vs C cs vs → cs.length = vs.length
  | [], [], _ => rfl
  | _ :: _, _ :: _, h => by simp only [Vs] at h; simp [Vs.length h.2]
  | [], _ :: _, h => by simp only [Vs] at h
  | _ :: _, [], h => by simp only [Vs] at h

theorem Vs.get {C : Ctx} : ∀ {cs : List AV} {vs : List Value}, Vs C cs vs → ∀ {i : Nat} {c : AV}, cs[i]? = some c → ∃ v, vs[i]? = some v ∧ V C c v
  | [], [], _, i, c, hc => by simp at hc
  | c' :: cs, v' :: vs, h, 0, c, hc => by
    simp only [Vs] at h
    simp at hc
    subst hc
    exact ⟨v', by simp, h.1⟩
  | c' :: cs, v' :: vs, h, i + 1, c, hc => by
    simp only [Vs] at h
    simp at hc
    obtain ⟨v, h1, h2⟩ := h.2.get hc
    exact ⟨v, by simpa using h1, h2⟩
  | [], _ :: _, h, _, _, _ => by simp only [Vs] at h
  | _ :: _, [], h, _, _, _ => by simp only [Vs] at h

theorem Vs.getV {C : Ctx} : ∀ {cs : List AV} {vs : List Value}, Vs C cs vs → ∀ {i : Nat} {v : Value}, vs[i]? = some v → ∃ c, cs[i]? = some c ∧ V C c v
  | [], [], _, i, c, hc => by simp at hc
  | c' :: cs, v' :: vs, h, 0, c, hc => by
    simp only [Vs] at h
    simp at hc
    subst hc
    exact ⟨c', by simp, h.1⟩
  | c' :: cs, v' :: vs, h, i + 1, c, hc => by
    simp only [Vs] at h
    simp at hc
    obtain ⟨v, h1, h2⟩ := h.2.getV hc
    exact ⟨v, by simpa using h1, h2⟩
  | [], _ :: _, h, _, _, _ => by simp only [Vs] at h
  | _ :: _, [], h, _, _, _ => by simp only [Vs] at h

theorem Vs.of {C : Ctx} : ∀ {cs : List AV} {vs : List Value}, cs.length = vs.length → (∀ (i : Nat) (c : AV) (v : Value), cs[i]? = some c → vs[i]? = some v → V C c v) → Vs C cs vs
  | [], [], _, _ => by simp only [Vs]
  | c :: cs, v :: vs, h, k => by
    simp only [Vs]
    exact ⟨k 0 c v (by simp) (by simp), Vs.of (by simpa using h) fun i c' v' hc hv => k (i + 1) c' v' (by simpa using hc) (by simpa using hv)⟩
  | [], _ :: _, h, _ => by simp at h
  | _ :: _, [], h, _ => by simp at h

theorem Vs.at {C : Ctx} {cs : List AV} {vs : List Value} (h : Vs C cs vs) {i : Nat} {c : AV} {v : Value} (hc : cs[i]? = some c) (hv : vs[i]? = some v) : V C c v := by
  obtain ⟨v', h1, h2⟩ := h.get hc
  rw [h1] at hv
  cases hv
  exact h2

theorem Vs.set {C : Ctx} {cs : List AV} {vs : List Value} (h : Vs C cs vs) (i : Nat) {c : AV} {v : Value} (hc : V C c v) : Vs C (cs.set i c) (vs.set i v) := by
  refine Vs.of (by simp [h.length]) fun j c' v' h1 h2 => ?_
  rw [List.getElem?_set] at h1 h2
  split at h1
  · rename_i e
    subst e
    have := h.length
    split at h1
    · rw [if_pos rfl, if_pos (by omega)] at h2
      cases h1; cases h2; exact hc
    · cases h1
  · rename_i e
    rw [if_neg e] at h2
    exact h.at h1 h2

theorem Vs.append {C : Ctx} {cs ds : List AV} {vs us : List Value} (h : Vs C cs vs) (k : Vs C ds us) : Vs C (cs ++ ds) (vs ++ us) := by
  have := h.length
  have := k.length
  refine Vs.of (by simp; omega) fun j c v h1 h2 => ?_
  rw [List.getElem?_append] at h1 h2
  split at h1
  · rw [if_pos (by omega)] at h2; exact h.at h1 h2
  · rw [if_neg (by omega)] at h2
    exact k.at h1 (by rwa [show vs.length = cs.length by omega] at h2)

theorem Vs.drop {C : Ctx} {cs : List AV} {vs : List Value} (h : Vs C cs vs) (n : Nat) : Vs C (cs.drop n) (vs.drop n) := by
  refine Vs.of (by simp [h.length]) fun j c v h1 h2 => ?_
  rw [List.getElem?_drop] at h1 h2
  exact h.at h1 h2

theorem Vs.take {C : Ctx} {cs : List AV} {vs : List Value} (h : Vs C cs vs) (n : Nat) : Vs C (cs.take n) (vs.take n) := by
  refine Vs.of (by simp [h.length]) fun j c v h1 h2 => ?_
  rw [List.getElem?_take] at h1 h2
  split at h1
  · rename_i e; rw [if_pos e] at h2; exact h.at h1 h2
  · cases h1

end Go.AI
