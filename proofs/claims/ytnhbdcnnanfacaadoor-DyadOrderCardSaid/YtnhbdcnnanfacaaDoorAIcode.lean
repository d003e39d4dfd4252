/- Code, loops, functions: what the interpreter says is a contract. -/
import Derived.Test.YtnhbdcnnanfacaaDoorAIview
namespace Go.AI
open Go Go.RowKit
set_option linter.unusedVariables false
set_option linter.unusedSimpArgs false

theorem St.len_put (σ : St) (d : Option Tmp) (v : AV) : (σ.put d v).tmps.length = σ.tmps.length := by cases d <;> simp [St.put]
theorem St.len_apply (σ : St) (d : Option Tmp) (e : Eff) : (σ.apply d e).tmps.length = σ.tmps.length := by simp [St.apply, St.len_put]

section
variable {P : Program} {Inv : World → Prop} {na nt : Nat} {β0 : Nat → Nat → Prop} {w0 : World} {Φ : Nat → List AV → Option Spec} {Λ : Nat → Option LoopAnn} {ops : Array Oper}

theorem andO_mono {p : Option Prop} {q q' : Prop} (h : q → q') (k : andO p q) : andO p q' := by
  cases p with
  | none => exact h k
  | some p => exact ⟨k.1, h k.2⟩

theorem shareV_mono {v : AV} {k k' : AV → Prop} (h : ∀ v, k v → k' v) (hs : shareV v k) : shareV v k' := by
  unfold shareV at hs ⊢
  split
  · exact fun l e => h _ (hs l e)
  · exact fun l e => h _ (hs l e)
  · exact fun l e => h _ (hs l e)
  · rename_i n1 n2 n3
    split at hs
    · exact absurd rfl (n1 _ _)
    · exact absurd rfl (n2 _ _)
    · exact absurd rfl (n3 _)
    · exact h _ hs
theorem shareVs_mono : ∀ {l : List AV} {k k' : List AV → Prop}, (∀ v, k v → k' v) → shareVs l k → shareVs l k'
  | [], _, _, h, hs => h _ hs
  | _ :: _, _, _, h, hs => shareV_mono (fun _ h' => shareVs_mono (fun _ h'' => h _ h'') h') hs
theorem shareW_mono {v : AV} {k k' : AV → Prop} (h : ∀ v, k v → k' v) (hs : shareW v k) : shareW v k' := by
  cases v with
  | agg cs => exact shareVs_mono (fun _ h' => h _ h') hs
  | dig p l => exact fun l e => h _ (hs l e)
  | num kd n => exact fun l e => h _ (hs l e)
  | bool b => exact fun l e => h _ (hs l e)
  | _ => exact h _ hs
theorem shareWs_mono : ∀ {l : List AV} {k k' : List AV → Prop}, (∀ v, k v → k' v) → shareWs l k → shareWs l k'
  | [], _, _, h, hs => h _ hs
  | _ :: _, _, _, h, hs => shareW_mono (fun _ h' => shareWs_mono (fun _ h'' => h _ h'') h') hs
theorem share_mono {v : AV} {k k' : AV → Prop} (h : ∀ v, k v → k' v) (hs : share v k) : share v k' := by
  cases v with
  | agg cs => exact shareVs_mono (fun _ h' => h _ h') hs
  | tup cs => exact shareWs_mono (fun _ h' => h _ h') hs
  | _ => exact h _ hs

/-- the frame keeps its size through a region -/
theorem evR_len {dr : Bool} {lim : Nat} {K : St → Prop} : ∀ (L : List (Nat × Oper)) (σ : St), evR P Φ dr lim ops L σ K → evR P Φ dr lim ops L σ (fun σ' => σ'.tmps.length = σ.tmps.length ∧ K σ')
  | [], σ, h => ⟨rfl, h⟩
  | x :: L, σ, h => by
    have stepMono : ∀ {s : St} {k k' : St → Prop}, (∀ s', s'.tmps.length = s.tmps.length → k s' → k' s') → stepK P Φ dr (sees lim ops x.2) s x k → stepK P Φ dr (sees lim ops x.2) s x k' := by
      intro s k k' hk hs
      unfold stepK at hs ⊢
      split at hs
      · rename_i e he
        refine andO_mono (fun hc => ?_) hs
        cases hcall : isCall x.2.op <;> rw [hcall] at hc
        · cases hbig : isBig x.2.op <;> rw [hbig] at hc
          · exact hk _ (St.len_apply _ _ _) hc
          · exact shareV_mono (fun v h => hk _ (St.len_apply _ _ _) h) hc
        · exact share_mono (fun v h => hk _ (St.len_apply _ _ _) h) hc
      · exact hs.elim
    have go : ∀ {s : St}, s.tmps.length = σ.tmps.length → evR P Φ dr lim ops L s K → evR P Φ dr lim ops L s (fun σ' => σ'.tmps.length = σ.tmps.length ∧ K σ') := by
      intro s hs hr
      have := evR_len L s hr
      rw [hs] at this
      exact this
    simp only [evR] at h ⊢
    split at h
    · exact stepMono (fun s' h1 h2 => go h1 h2) h
    · rename_i j want hg
      split at h
      · exact h.elim
      · rename_i d hj
        split at h
        · rename_i b hd
          cases b <;> cases want <;> simp only [cond_true, cond_false] at h ⊢
          · exact stepMono (fun s' h1 h2 => go (by rw [h1, St.len_put]) h2) h
          · exact go (by rw [St.len_put, St.len_put]) h
          · exact go (by rw [St.len_put, St.len_put]) h
          · exact stepMono (fun s' h1 h2 => go (by rw [h1, St.len_put]) h2) h
        · exact go (by rw [St.len_put]) h
        · exact h.elim

/-- a loop, by a number that falls -/
theorem wp_loop_nat {c : Code} {Q : Exit → Act → World → Prop} (J : Nat → Act → World → Prop)
    (h : ∀ n a w, J n a w → c.wp P (Exit.then (fun a' w' => ∃ m, m < n ∧ J m a' w') Q) a w) {n : Nat} {a : Act} {w : World} (h0 : J n a w) : (Code.loop c).wp P Q a w := by
  have least : ∀ {p : Nat → Prop}, (∃ n, p n) → ∃ n, p n ∧ ∀ m, p m → n ≤ m := by
    intro p ⟨n, hn⟩
    induction n using Nat.strongRecOn with
    | _ n ih =>
      by_cases hm : ∃ m, m < n ∧ p m
      · obtain ⟨m, h1, h2⟩ := hm; exact ih m h1 h2
      · exact ⟨n, hn, fun m hp => by
          rcases Nat.lt_or_ge m n with h' | h'
          · exact absurd ⟨m, h', hp⟩ hm
          · exact h'⟩
  classical
  refine wp_loop (fun a w => ∃ n, J n a w) (fun a w => if hx : ∃ n, J n a w then Classical.choose (least hx) else 0) ⟨n, h0⟩ fun a w hI => ?_
  have hx := Classical.choose_spec (least hI)
  refine wp_mono (h _ a w hx.1) fun e a' w' hq => ?_
  cases e with
  | normal =>
    obtain ⟨m, hm, hJ⟩ := hq
    refine ⟨⟨m, hJ⟩, ?_⟩
    have hex : ∃ n, J n a' w' := ⟨m, hJ⟩
    have := (Classical.choose_spec (least hex)).2 m hJ
    rw [dif_pos hex, dif_pos hI]
    omega
  | _ => exact hq

/-- rounds of a loop that is kept to a few slots -/
def iterN (P : Program) (Φ : Nat → List AV → Option Spec) (Λ : Nat → Option LoopAnn) (na nt : Nat) (keep : List (Nat × Keep)) (body : Code) : Nat → List AV → (Exit → List AV → Prop) → Prop
  | 0, _, _ => False
  | n + 1, vals, K => evIter P Φ Λ na nt keep body vals fun e vals' => match e with
    | .normal => iterN P Φ Λ na nt keep body n vals' K
    | e => K e vals'

/-- the loop's own contract -/
def LoopOk (P : Program) (Φ : Nat → List AV → Option Spec) (Λ : Nat → Option LoopAnn) (na nt : Nat) (keep : List (Nat × Keep)) (body : Code) (ls : List AV → Option LR) : Prop :=
  ∀ vals r, ls vals = some r → ∀ K, evLR r K → ∃ n, iterN P Φ Λ na nt keep body n vals K

def LoopsOk (P : Program) (Φ : Nat → List AV → Option Spec) (Λ : Nat → Option LoopAnn) (na nt : Nat) : Code → Prop
  | .seq a b => LoopsOk P Φ Λ na nt a ∧ LoopsOk P Φ Λ na nt b
  | .cond _ a b => LoopsOk P Φ Λ na nt a ∧ LoopsOk P Φ Λ na nt b
  | .block _ a => LoopsOk P Φ Λ na nt a
  | .loop a => LoopsOk P Φ Λ na nt a ∧ ∀ keep ls, Λ (firstRegion a) = some (.spec keep ls) → LoopOk P Φ Λ na nt keep a ls
  | _ => True

/-- a related state, for some arenas -/
def Rel (na nt : Nat) (β0 : Nat → Nat → Prop) (w0 : World) (σ : St) (a : Act) (w : World) : Prop := σ.tmps.length = nt ∧ ∃ β, R na β0 w0 σ β a w

theorem evLR_mono {k k' : Exit → List AV → Prop} (h : ∀ e v, k e v → k' e v) : ∀ r : LR, evLR r k → evLR r k'
  | .done e v, hr => h e v hr
  | .test b x y, hr => by
    simp only [evLR] at hr ⊢
    cases b
    · exact evLR_mono h y hr
    · exact evLR_mono h x hr
  | .need p x, hr => ⟨hr.1, evLR_mono h x hr.2⟩

theorem unview_length : ∀ (keep : List (Nat × Keep)) (vals : List AV) (n : Nat) (tmps : List AV), (unview n keep vals tmps).length = tmps.length
  | [], vals, n, tmps => by simp [unview]
  | x :: keep, [], n, tmps => by simp [unview]
  | x :: keep, v :: vals, n, tmps => by
    cases v <;> simp [unview, unview_length keep]

theorem evC_sound (hm : P.follows .mixedOrders = true) (hΦ : PhiOk P Inv Φ) (hGrow : ∀ w w', Inv w → Grow w w' → Inv w') (hInv0 : Inv w0) : ∀ (c : Code), LoopsOk P Φ Λ na nt c → ∀ (σ : St) (k : Exit → St → Prop) (a : Act) (w : World) (Q : Exit → Act → World → Prop),
    Rel na nt β0 w0 σ a w → evC P Φ Λ na c σ k → (∀ e σ' a' w', k e σ' → Rel na nt β0 w0 σ' a' w' → Q e a' w') → c.wp P Q a w := by
  intro c
  induction c with
  | skip => intro _ σ k a w Q hR h hk; exact wp_skip (hk _ _ _ _ h hR)
  | region id ops draw =>
    intro _ σ k a w Q hR h hk
    obtain ⟨hnt, β, hR⟩ := hR
    let σ' : St := { σ with boxes := σ.boxes ++ List.replicate (countAllocs ops.toList) .unborn }
    have hbox : ∀ i, σ'.box i = σ.box i := by
      intro i
      show List.getD _ _ _ = List.getD _ _ _
      simp only [σ', List.getD, List.getElem?_append]
      split
      · rfl
      · rename_i hi
        rw [List.getElem?_eq_none (by omega : σ.boxes.length ≤ i)]
        rw [List.getElem?_replicate]
        split <;> rfl
    have hbx : σ'.box = σ.box := funext hbox
    have hR' : R na β0 w0 σ' β a w := by
      refine ⟨by rw [hbx]; exact hR.tmps, hR.defers, fun i => by rw [hbx]; exact hR.boxes i, fun i hi => by rw [hbx]; exact hR.args i hi, hR.old, hR.new, hR.disj, fun i x hi => by rw [hbx] at hi; exact hR.unborn i x hi, hR.grow, hR.arg0⟩
    have hna : na < σ.boxes.length := by
      rcases Nat.lt_or_ge na σ.boxes.length with h' | h'
      · exact h'
      · have := hR.args na (Nat.le_refl _)
        simp [St.box, List.getD, List.getElem?_eq_none h'] at this
    have hrd : Ready na σ' σ.boxes.length ops.toList := by
      refine ⟨hna, fun i hi => ?_, by simp [σ']⟩
      rw [hbox]
      simp [St.box, List.getD, List.getElem?_eq_none hi]
    cases draw with
    | false =>
      have h' : evR P Φ false σ.boxes.length ops (number σ.boxes.length ops.toList) σ' (fun σ => k .normal σ) := h
      refine wp_region_list (evR_seq hΦ hGrow hInv0 (K := fun s => s.tmps.length = σ'.tmps.length ∧ k .normal s) (fun s β a w hRs hks => hk .normal s a w hks.2 ⟨by rw [hks.1]; exact hnt, β, hRs⟩) σ.boxes.length ops.toList _ σ' β a w hR' hrd (evR_len _ _ h'))
    | true =>
      have h' : cond (drawOk ops) (evR P Φ true σ.boxes.length ops (number σ.boxes.length ops.toList) σ' (fun σ => k .normal σ)) False := h
      cases hok : drawOk ops with
      | false => rw [hok] at h'; exact h'.elim
      | true =>
        rw [hok] at h'
        exact evR_draw hok hm hΦ hGrow hInv0 (K := fun s => s.tmps.length = σ'.tmps.length ∧ k .normal s) (fun s β a w hRs hks => hk .normal s a w hks.2 ⟨by rw [hks.1]; exact hnt, β, hRs⟩) hR' hrd (evR_len _ _ h') id
  | seq x y ihx ihy =>
    intro hl σ k a w Q hR h hk
    refine wp_seq (ihx hl.1 σ _ a w _ hR h fun e σ' a' w' he hR' => ?_)
    cases e with
    | normal => exact ihy hl.2 σ' k a' w' Q hR' he hk
    | _ => exact hk _ _ _ _ he hR'
  | cond c x y ihx ihy =>
    intro hl σ k a w Q hR h hk
    have hR0 := hR
    obtain ⟨hnt, β, hR⟩ := hR
    have hV := hR.V_eval c
    simp only [evC] at h
    split at h
    · rename_i t ht
      rw [ht] at hV
      refine wp_cond hV.bool_inv ?_
      split at h
      · rename_i d
        have hd : σ.tmps.getD d .junk = .bool t := ht
        have hp := put_self hd
        cases t <;> simp only [cond_true, cond_false] at h <;> rw [hp] at h
        · exact ihy hl.2 σ k a w Q hR0 h hk
        · exact ihx hl.1 σ k a w Q hR0 h hk
      · cases t <;> simp only [cond_true, cond_false] at h
        · exact ihy hl.2 σ k a w Q hR0 h hk
        · exact ihx hl.1 σ k a w Q hR0 h hk
    · exact h.elim
  | block id x ih =>
    intro hl σ k a w Q hR h hk
    refine wp_block (ih hl σ _ a w _ hR h fun e σ' a' w' he hR' => ?_)
    cases e with
    | exit i =>
      simp only [exitK] at he
      simp only [Exit.inBlock]
      split at he
      · rename_i e; rw [if_pos e]; exact hk _ _ _ _ he hR'
      · rename_i e; rw [if_neg e]; exact hk _ _ _ _ he hR'
    | _ => exact hk _ _ _ _ he hR'
  | loop x ih =>
    intro hl σ k a w Q hR h hk
    simp only [evC] at h
    split at h
    · rename_i n _
      refine wp_loop_nat (fun n a w => ∃ σ, Rel na nt β0 w0 σ a w ∧ unrollN (evC P Φ Λ na x) n σ k) (fun n a w ⟨σ, hR, hu⟩ => ?_) (n := n) ⟨σ, hR, h⟩
      cases n with
      | zero => exact hu.elim
      | succ n =>
        refine ih hl.1 σ _ a w _ hR hu fun e σ' a' w' he hR' => ?_
        cases e with
        | normal => exact ⟨n, by omega, σ', hR', he⟩
        | _ => exact hk _ _ _ _ he hR'
    · rename_i keep ls hΛ
      -- the state at the loop's head, kept
      have relay : ∀ {σ : St} {a : Act} {w : World} {k : List AV → Prop}, Rel na nt β0 w0 σ a w → withView na keep σ k → ∃ vals, k vals ∧ Rel na nt β0 w0 (layOut na nt keep vals) a w := by
        intro σ a w k ⟨hnt, β, hR⟩ hv
        unfold withView at hv
        split at hv
        · rename_i vals hvals
          cases hn : nodup ((keptBoxes σ keep).filterMap id) with
          | false => rw [hn] at hv; exact hv.elim
          | true =>
            rw [hn] at hv
            have := hR.relayout hvals hn
            rw [hnt] at this
            exact ⟨vals, hv, by simp [layOut, unview_length], _, this⟩
        · exact hv.elim
      have hnt := hR.1
      obtain ⟨vals, hv, hR1⟩ := relay hR h
      split at hv
      · rename_i r hr
        rw [hnt] at hv
        obtain ⟨n, hit⟩ := hl.2 keep ls hΛ vals r hr _ hv
        refine wp_loop_nat (fun n a w => ∃ vals, Rel na nt β0 w0 (layOut na nt keep vals) a w ∧ iterN P Φ Λ na nt keep x n vals (fun e vals' => k e (layOut na nt keep vals'))) (fun n a w ⟨vals, hR, hu⟩ => ?_) (n := n) ⟨vals, hR1, hit⟩
        cases n with
        | zero => exact hu.elim
        | succ n =>
          refine ih hl.1 _ _ a w _ hR hu fun e σ' a' w' he hR' => ?_
          obtain ⟨vals', hv', hR2⟩ := relay hR' he
          cases e with
          | normal => exact ⟨n, by omega, vals', hR2, hv'⟩
          | _ => exact hk _ _ _ _ hv' hR2
      · exact hv.elim
    · exact h.elim
  | exit id => intro _ σ k a w Q hR h hk; exact wp_exit (hk _ _ _ _ h hR)
  | ret => intro _ σ k a w Q hR h hk; exact wp_ret (hk _ _ _ _ h hR)
  | rangeFunc => intro _ σ k a w Q hR h hk; exact h.elim
  | scope => intro _ σ k a w Q hR h hk; exact h.elim
  | label => intro _ σ k a w Q hR h hk; exact h.elim
  | goto => intro _ σ k a w Q hR h hk; exact h.elim
  | refuse => intro _ σ k a w Q hR h hk; exact h.elim

end
end Go.AI
