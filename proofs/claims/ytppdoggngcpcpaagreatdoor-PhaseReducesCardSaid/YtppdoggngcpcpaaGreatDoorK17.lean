/- My texts AIraw3, AIreduces, AIrow, in one. -/
import Derived.Test.YtppdoggngcpcpaaGreatDoorK16
import Derived.Test.YtppdoggngcpcpaaGreatDoorRows
import Derived.WalkKit
import Derived.ProofKit
import Derived.LaidMore
import Derived.OpenShut
import Derived.Below
import Derived.Carry
import Derived.SizedLaws
import Derived.Lib.LaidTab
import Derived.Deep.Strs
namespace Go.AI
open Go Go.RowKit Go.Proofs
set_option linter.unusedVariables false
set_option maxRecDepth 100000
section
variable {P : Program} {Inv : World → Prop} {na : Nat} {β0 : Nat → Nat → Prop} {w0 : World} {Φ : Nat → List AV → Option Spec} {ops : Array Oper}
theorem evR_rest (hΦ : PhiOk P Inv Φ) (hGrow : ∀ w', GrowS (β0 (na + 1)) w0 w' → Inv w') {Q : Exit → Act → World → Prop} {K : St → Prop} {T : List Oper}
  (hK : ∀ σ β a w, R na β0 w0 σ β a w → K σ → wpList P ops Q T a w) (lim : Nat) : ∀ (L : List Oper) (m : Nat) (σ : St) (β : Nat → Nat → Prop) (a : Act) (w : World), R na β0 w0 σ β a w → Ready na σ m L →
  evR P Φ na false none lim ops (number m L) σ K → wpList P ops Q (L ++ T) a w
 | [], m, σ, β, a, w, hR, _, h => hK σ β a w hR h
 | o :: L, m, σ, β, a, w, hR, hrd, h => by
  have hInv : Inv w := hGrow _ hR.grow
  simp only [number, evR] at h
  have take : ∀ {k}, stepK P Φ na false (eyes none lim ops o) σ (m, o) k → (∀ σ', k σ' → evR P Φ na false none lim ops (number (if allocates o.op then m + 1 else m) L) σ' K) → Region.wanted o (yielded ops a.tmps) = true → wpList P ops Q (o :: L ++ T) a w := by
   intro k hs hk hw
   obtain ⟨e, he, _, h2, h3⟩ := step_sound hR hInv hΦ hs (fun ha => hrd.free ha)
   rw [List.cons_append]
   unfold wpList
   rw [if_pos hw]
   refine .inl (h3 _ _ fun β' a' w' hR' => ?_)
   exact evR_rest hΦ hGrow hK lim L _ _ β' a' w' hR' (hrd.step (Sub.refl _) he) (hk _ h2)
  have pass : evR P Φ na false none lim ops (number (if allocates o.op then m + 1 else m) L) (σ.put o.dst (.tup [])) K → Region.wanted o (yielded ops a.tmps) = false → wpList P ops Q (o :: L ++ T) a w := by
   intro hs hw
   rw [List.cons_append]
   unfold wpList
   rw [if_neg (by simp [hw])]
   exact evR_rest hΦ hGrow hK lim L _ _ β _ w (hR.put o.dst V_undef) (hrd.put _ _) hs
  split at h
  ·rename_i hg
   exact take h (fun _ h => h) (by simp [Region.wanted, hg])
  ·rename_i j want hg
   split at h
   ·exact h.elim
   ·rename_i d hj
    split at h
    ·rename_i b hd
     have hw := wanted_of (ops := ops) hR hg hj hd
     obtain ⟨hput, _⟩ := hR.put_same hd
     cases b <;> simp only [cond_true, cond_false] at h <;> rw [hput] at h <;> cases want <;> simp only [cond_true, cond_false] at h
     ·exact take h (fun _ h => h) hw
     ·exact pass h hw
     ·exact pass h hw
     ·exact take h (fun _ h => h) hw
    ·rename_i hd
     exact pass h (unwanted_of hR hg hj hd)
    ·exact h.elim
end
theorem phi_none : PhiOk Tryz.prog (fun _ => True) (look []) := fun f args s h => by simp [look] at h
noncomputable def qS : Oper := qR15.toList.getD 4 default
theorem q15_split : qR15.toList.take 4 ++ [qS] = qR15.toList := by kernel_rfl
theorem qS_op : qS.op = .store 33 (.tmp 95) (.const (.int .u32 7)) := by kernel_rfl
theorem qS_guard : qS.guard = none := by kernel_rfl
theorem qS_dst : qS.dst = none := by kernel_rfl
theorem qS_size : size? Tryz.prog 33 = some 1 := by kernel_rfl
theorem qc : countAllocs qR13.toList = 0 ∧ countAllocs (qR15.toList.take 4) = 0 ∧ countAllocs qR14.toList = 0 := ⟨by kernel_rfl, by kernel_rfl, by kernel_rfl⟩
section
variable {β0 : Nat → Nat → Prop} {w0 : World} {b0 b1 b2 b3 b4 b5 b6 b9 b10 b11 b12 b13 : Box} {s c : Bool} {e : Int} {a : Act} {w : World}
theorem box14 {L : List AV} {bs : List Box} (h : bs.length = 14) : ∀ i, 14 ≤ i → St.box ⟨L, bs⟩ i = .unborn := fun i hi => by
 show bs.getD i .unborn = _
 simp [List.getD, List.getElem?_eq_none (show bs.length ≤ i by omega)]
theorem qstep {σ σ' : St} {ops : Array Oper} {n : Nat} {Q : Exit → Act → World → Prop} {β : Nat → Nat → Prop} (hR : R 2 β0 w0 σ β a w) (hb : σ.boxes.length = 14) (hc : countAllocs ops.toList = 0)
  (hE : ∀ K : St → Prop, K σ' → evR Tryz.prog (look []) 2 false none 14 ops (number 14 ops.toList) σ K) (hQ : ∀ β' a' w', R 2 β0 w0 σ' β' a' w' → Q .normal a' w') : (Code.region n ops false).wp Tryz.prog Q a w := by
 refine wp_region_list (evR_seq phi_none (fun _ _ => trivial) (K := fun s => s = σ') (fun s β' a' w' hR' e => by subst e; exact hQ β' a' w' hR') 14 ops.toList 14 σ β a w hR ⟨by omega, box14 hb, by rw [hb, hc]; exact Nat.le_refl _⟩ (hE _ rfl))
theorem qstore {n : Nat} {Q : Exit → Act → World → Prop} {β : Nat → Nat → Prop} {m : List Nat} {k : Int} (hf : ∀ i, i ≠ 8 → (St.box ⟨[], qboxes b0 b1 b2 b3 b4 b5 b6 .arena s m e b9 b10 b11 b12 b13⟩ i).free 7 = true)
  (hR : R 2 β0 w0 ⟨qtmps c (.num .i64 k), qboxes b0 b1 b2 b3 b4 b5 b6 .arena s m e b9 b10 b11 b12 b13⟩ β a w) (k0 : 0 ≤ k) (k1 : k < (m.length : Int))
  (hQ : ∀ m' β' a' w', m'.length = m.length → R 2 β0 w0 ⟨qtmps c (.num .i64 k), qboxes b0 b1 b2 b3 b4 b5 b6 .arena s m' e b9 b10 b11 b12 b13⟩ β' a' w' → Q .normal a' w') : (Code.region n qR15 false).wp Tryz.prog Q a w := by
 have hE := fun K : St → Prop => ev_q15 b0 b1 b2 b3 b4 b5 b6 b9 b10 b11 b12 b13 s c m e k K
 obtain ⟨T, hT⟩ : ∃ T : List AV, (∀ K : St → Prop, K ⟨T, qboxes b0 b1 b2 b3 b4 b5 b6 .arena s m e b9 b10 b11 b12 b13⟩ → evR Tryz.prog (look []) 2 false none 14 qR15 (number 14 (qR15.toList.take 4)) ⟨qtmps c (.num .i64 k), qboxes b0 b1 b2 b3 b4 b5 b6 .arena s m e b9 b10 b11 b12 b13⟩ K) ∧
   forgetting (qtmps c (.num .i64 k)) T ∧ T.getD 95 .junk = .cref [7] [.num .u32 (m.getD k.toNat 0 : Nat)] := by
  apply Exists.intro
  refine ⟨fun K hK => ?_, ?_, ?_⟩
  ·rw [hE K]; exact ⟨⟨k0, k1⟩, hK⟩
  ·(repeat' first | exact True.intro | (refine And.intro (by first | exact Or.inl rfl | exact Or.inr rfl) ?_))
  ·rfl
 obtain ⟨h1, h3, h4⟩ := hT
 have key := evR_rest (Q := Q) (T := [qS]) phi_none (fun _ _ => trivial) (K := fun s' => s' = ⟨T, qboxes b0 b1 b2 b3 b4 b5 b6 .arena s m e b9 b10 b11 b12 b13⟩) (fun s' β' a' w' hR' e' => ?_) 14 (qR15.toList.take 4) 14 _ β a w hR ⟨by omega, box14 rfl, by rw [qc.2.1]; exact Nat.le_refl _⟩ (h1 (fun s' => s' = _) rfl)
 ·rw [q15_split] at key
  exact wp_region_list key
 ·subst e'
  have hV := hR'.V_eval (.tmp 95)
  rw [show St.eval ⟨T, qboxes b0 b1 b2 b3 b4 b5 b6 .arena s m e b9 b10 b11 b12 b13⟩ (.tmp 95) = .cref [7] [.num .u32 (m.getD k.toNat 0 : Nat)] from h4] at hV
  simp only [V] at hV
  obtain ⟨-, vs, hvs, b, off, hp, hd⟩ := hV
  have hal : Ctx.alive ⟨St.box ⟨T, qboxes b0 b1 b2 b3 b4 b5 b6 .arena s m e b9 b10 b11 b12 b13⟩, β', w'⟩ [7] := fun j hj => by
   have : j = 7 := by simpa using hj
   subst this
   rfl
  obtain ⟨⟨j, hj, hin⟩, hcell⟩ := hd hal
  have hj1 : j = 7 := by simpa using hj
  subst hj1
  have hnew := hR'.new 7 b (by omega) hin
  obtain ⟨c1, T1, hheap⟩ : ∃ c1 T1, w'.heap[b]? = some (.cells c1 T1 (0, 0)) := by
   rcases hnew.1 with h | h
   ·exact hR'.grow.fresh b h hnew.2
   ·obtain ⟨c0, T0, hc0⟩ := hR'.grow.base b h
    obtain ⟨c1, hc1, -⟩ := hR'.grow.inS b c0 T0 h hc0
    exact ⟨c1, T0, hc1⟩
  match vs, hvs, hcell with
  | [u], hvs, hcell =>
   simp only [Vs, V] at hvs
   obtain ⟨⟨rfl, hu⟩, -⟩ := hvs
   have hcl := hcell 0 _ rfl
   rw [Nat.add_zero, cell?_of_block hheap] at hcl
   have hoff : off < c1.size := (Array.getElem?_eq_some_iff.1 hcl).1
   have hst := run_storeCells_at Tryz.prog b off T1 [.int .u32 7] 0 c1 w' hheap (by simp; omega) (fun u hu => by simp at hu; subst hu; rfl)
   simp only [Nat.add_zero] at hst
   let cs' : Array Value := (c1.toList.take off ++ [Value.int .u32 7] ++ c1.toList.drop (off + [Value.int .u32 7].length)).toArray
   have hp : a'.eval (.tmp 95) = .pointer (some ⟨b, off, none⟩) := hp
   have hrun : (execOp a'.eval qS).run Tryz.prog w' = .ok .skip (w'.setRow b cs') := by
    simp only [execOp, qS_op, hp, Instr.storeAt, Instr.sureAddr, Sem.run_bind, Sem.run_pure, Result.andThen_ok, storeVar, run_sizeOf qS_size, show a'.eval (.const (.int .u32 7)) = .int .u32 7 from rfl, Value.cells, List.size_toArray, List.length_cons, List.length_nil, ne_eq, Nat.zero_add, not_true_eq_false, if_false, hst, cs']
   have hblot : Blot b off w' (w'.setRow b cs') := by
    refine ⟨⟨rfl, rfl, rfl, by simp, fun k hk => by omega⟩, by simp, fun y hy => setRow_other _ _ _ _ hy, c1, cs', T1, 7, hheap, setRow_heap w' b c1 cs' T1 (0, 0) hheap, fun j hj => ?_, ⟨m.getD k.toNat 0, hcl⟩, by decide, ?_⟩
    ·simp only [cs', List.getElem?_toArray]
     rcases Nat.lt_or_ge j off with c | c
     ·rw [List.append_assoc, List.getElem?_append_left (by simp; omega), List.getElem?_take, if_pos c]; simp
     ·rw [List.getElem?_append_right (by simp; omega), List.getElem?_drop]
      have : off + [Value.int IntKind.u32 7].length + (j - (c1.toList.take off ++ [Value.int IntKind.u32 7]).length) = j := by simp; omega
      rw [this]; simp
    ·simp only [cs', List.getElem?_toArray]
     rw [List.append_assoc, List.getElem?_append_right (by simp; omega)]
     have : off - (c1.toList.take off).length = 0 := by simp; omega
     rw [this]; rfl
   have hR2 : R 2 β0 w0 ⟨qtmps c (.num .i64 k), qboxes b0 b1 b2 b3 b4 b5 b6 .arena s m e b9 b10 b11 b12 b13⟩ β' a' w' := hR'.forgetting h3
   obtain ⟨m', e', hR3⟩ := hR2.blot (n := 7) (b7 := 8) (by omega) (by omega) rfl hin hblot rfl hf (s := s) (m := m) (e := e) rfl
   unfold wpList
   rw [if_pos (by simp [Region.wanted, qS_guard])]
   refine .inl ?_
   unfold Oper.wp
   rw [hrun]
   have := hQ m' β' (a'.put qS.dst undef) (w'.setRow b cs') e' (by rw [qS_dst]; exact hR3)
   exact this
  | [], hvs, _ => simp only [Vs] at hvs
  | _ :: _ :: _, hvs, _ => simp [Vs] at hvs
theorem raw_loop : RawOk Tryz.prog 2 105 (bodyN Tryz.f3 0) rawQ := by
 intro β0 w0 σ r a w Q hg ⟨hnt, β, hR⟩ hQ
 obtain ⟨T, bs⟩ := σ
 unfold rawQ at hg
 split at hg
 ·rename_i b0 b1 b2 b3 b4 b5 b6 s m e b9 b10 b11 b12 b13 hbs
  split at hg
  ·rename_i c t2 t5 t7 t12 t13
   split at hg
   ·rename_i hfree
    cases hg
    simp only at hbs t2 t5 t7 t12 t13 hnt
    subst hbs
    have hf : ∀ (m' : List Nat) (i : Nat), i ≠ 8 → (St.box ⟨[], qboxes b0 b1 b2 b3 b4 b5 b6 .arena s m' e b9 b10 b11 b12 b13⟩ i).free 7 = true := by
     intro m' i hi
     simp only [List.all_cons, List.all_nil, Bool.and_true, Bool.and_eq_true] at hfree
     obtain ⟨f0, f1, f2, f3, f4, f5, f6, f9, f10, f11, f12, f13⟩ := hfree
     match i, hi with
     | 0, _ => exact f0
     | 1, _ => exact f1
     | 2, _ => exact f2
     | 3, _ => exact f3
     | 4, _ => exact f4
     | 5, _ => exact f5
     | 6, _ => exact f6
     | 7, _ => rfl
     | 8, h => exact absurd rfl h
     | 9, _ => exact f9
     | 10, _ => exact f10
     | 11, _ => exact f11
     | 12, _ => exact f12
     | 13, _ => exact f13
     | i + 14, _ => rw [box14 rfl _ (by omega)]; rfl
    have hlen0 : ∀ {L : List AV} {n : Nat}, L.length = n → ∀ i, i < n → L[i]? = some (L.getD i .junk) := by
     intro L n h i hi
     simp only [List.getD]
     rw [List.getElem?_eq_getElem (by omega)]; rfl
    have hR0 : R 2 β0 w0 ⟨qtmps c (.num .i64 0), qboxes b0 b1 b2 b3 b4 b5 b6 .arena s m e b9 b10 b11 b12 b13⟩ β a w := by
     refine hR.forgetting ?_
     have fg : ∀ (l m : List AV), l.length = m.length → (∀ (i : Nat) c d, l[i]? = some c → m[i]? = some d → c = .junk ∨ c = d) → forgetting l m := by
      intro l
      induction l with
      | nil => intro m h _; cases m with
       | nil => trivial
       | cons => simp at h
      | cons x l ih => intro m h hh; cases m with
       | nil => simp at h
       | cons y m => exact ⟨hh 0 x y rfl rfl, ih m (by simpa using h) fun i c d h1 h2 => hh (i + 1) c d (by simpa using h1) (by simpa using h2)⟩
     refine fg _ _ (by rw [hnt]; rfl) fun i x d h1 h2 => ?_
     have hd : T.getD i .junk = d := by simp [List.getD, h2]
     match i, h1, hd with
     | 0, h1, _ => cases h1; exact .inl rfl
     | 1, h1, _ => cases h1; exact .inl rfl
     | 2, h1, hd => cases h1; exact .inr (t2.symm.trans hd)
     | 3, h1, _ => cases h1; exact .inl rfl
     | 4, h1, _ => cases h1; exact .inl rfl
     | 5, h1, hd => cases h1; exact .inr (t5.symm.trans hd)
     | 6, h1, _ => cases h1; exact .inl rfl
     | 7, h1, hd => cases h1; exact .inr (t7.symm.trans hd)
     | 8, h1, _ => cases h1; exact .inl rfl
     | 9, h1, _ => cases h1; exact .inl rfl
     | 10, h1, _ => cases h1; exact .inl rfl
     | 11, h1, _ => cases h1; exact .inl rfl
     | 12, h1, hd => cases h1; exact .inr (t12.symm.trans hd)
     | 13, h1, hd => cases h1; exact .inr (t13.symm.trans hd)
     | i + 14, h1, _ =>
      simp only [qtmps, List.cons_append, List.nil_append, List.getElem?_cons_succ, List.getElem?_replicate] at h1
      split at h1
      ·cases h1; exact .inl rfl
      ·cases h1
    have hm45 : m.length ≤ 2 ^ 45 := by
     have h8 := hR0.boxes 8
     obtain ⟨blk, -, vs, T', -, hvs⟩ := h8
     match hL : vs.toList, hvs with
     | [x0, x1, x2], hvs =>
      simp only [Vs] at hvs
      have := hvs.2.1
      simp only [V] at this
      exact this.2.1.1
     | [], hvs => simp [Vs] at hvs
     | [_], hvs => simp [Vs] at hvs
     | [_, _], hvs => simp [Vs] at hvs
     | _ :: _ :: _ :: _ :: _, hvs => simp [Vs] at hvs
    rw [qbody_eq]
    refine wp_loop_nat (fun n a w => ∃ (k : Nat) (m' : List Nat) (β : Nat → Nat → Prop), k + n = m.length ∧ m'.length = m.length ∧ R 2 β0 w0 ⟨qtmps c (.num .i64 (k : Int)), qboxes b0 b1 b2 b3 b4 b5 b6 .arena s m' e b9 b10 b11 b12 b13⟩ β a w) (fun n a w ⟨k, m', β, hk, hm', hR⟩ => ?_) (n := m.length) ⟨0, m, β, by omega, rfl, hR0⟩
    refine wp_seq (wp_seq ?_)
    refine qstep hR rfl qc.1 (fun K hK => by rw [ev_q13]; exact hK) fun β1 a1 w1 hR1 => ?_
    have hV := hR1.V_eval (.tmp 89)
    have hc := V.bool_inv (b := decide ((k : Int) < (m'.length : Int))) hV
    have hR1' : R 2 β0 w0 ⟨qtmps c (.num .i64 (k : Int)), qboxes b0 b1 b2 b3 b4 b5 b6 .arena s m' e b9 b10 b11 b12 b13⟩ β1 a1 w1 := hR1.forgetting (by (repeat' first | exact True.intro | (refine And.intro (by first | exact Or.inl rfl | exact Or.inr rfl) ?_)))
    refine wp_cond_split hc (fun ht => ?_) (fun hf' => ?_)
    ·have hlt : (k : Int) < (m'.length : Int) := of_decide_eq_true ht
     refine wp_skip (wp_seq (wp_block ?_))
     refine qstore (hf m') hR1' (by omega) hlt fun m2 β2 a2 w2 hm2 hR2 => ?_
     refine qstep hR2 rfl qc.2.2 (fun K hK => by rw [ev_q14]; exact hK) fun β3 a3 w3 hR3 => ?_
     refine ⟨n - 1, by omega, k + 1, m2, β3, by omega, by omega, ?_⟩
     have e1 : IntKind.i64.wrap ((k : Int) + 1) = ((k + 1 : Nat) : Int) := by rw [wrap_i64 (by omega) (by omega)]; omega
     rw [e1] at hR3
     exact hR3.forgetting (by (repeat' first | exact True.intro | (refine And.intro (by first | exact Or.inl rfl | exact Or.inr rfl) ?_)))
    ·refine wp_exit ?_
     refine hQ a1 w1 ⟨rfl, β1, ?_⟩
     exact ((hR1'.forgetting (l := qtmps c .junk) (by (repeat' first | exact True.intro | (refine And.intro (by first | exact Or.inl rfl | exact Or.inr rfl) ?_)))).dead (b := 7) (by omega) (by simp [St.box, qboxes])).dead (b := 8) (by omega) (by simp [St.box, qboxes])
   ·cases hg
  ·cases hg
 ·cases hg
end
end Go.AI

namespace Go.AI
open Go Go.RowKit Go.Proofs
set_option linter.unusedVariables false
set_option maxRecDepth 100000
set_option maxHeartbeats 1000000
theorem loops_raw {P : Program} {Φ : Nat → List AV → Option Spec} {Λ : Nat → Option LoopAnn} {na nt : Nat} {fn : Func} {g : St → Option (Exit × St)} (h : bodies (bodyOf fn) = [bodyN fn 0]) (hΛ : Λ (firstRegion (bodyN fn 0)) = some (.raw g))
  (hl : RawOk P na nt (bodyN fn 0) g) : LoopsAll P Φ Λ na nt (bodies (bodyOf fn)) := by
 rw [h]
 simp only [LoopsAll, hΛ]
 exact ⟨hl, trivial⟩
theorem ok_law_PhaseReduces (s : Bool) (m : List Nat) (e b : Int) : Contract Tryz.prog Inv 3 [.agg [.bool s, .dig [1] m, .num .i64 e], .num .i64 b] (.bool true) := by
 refine contract_at false 105 lamQ ok_tabY3 Tryz.func3 (by kernel_rfl) rfl (loops_raw (by kernel_rfl) (by kernel_rfl) raw_loop) fun hok => ?_
 rw [vc_law17_PhaseReduces]
 refine cond_i (fun _ => rfl) (fun h1 => cond_i (fun h2 => cond_i (fun _ => rfl) (fun h3 => ?_)) (fun h2 => ?_))
 ·have h1 := of_decide_eq_false h1
  have h3 := of_decide_eq_false h3
  have hb : b ≤ 1500 ∨ 6000 < b := .inr (by omega)
  refine ⟨⟨Nat.zero_le _, by omega⟩, hb, ?_⟩
  simp only [List.nil_append]
  intro n1 q1
  refine dpeel fun b2 l3 n4 d2 => ?_
  intro n5 q5
  refine cond_f (by rw [Dy.same_iff.2 rfl]; rfl) ?_
  by_cases c : Dy.refuse ⟨s, m, e⟩ b = 0
  ·refine cond_f (by rw [decide_eq_true c]; rfl) ⟨⟨c, by have := (Dy.refuse_ok.1 c).2.2.1; omega⟩, ?_⟩
   intro n6 q6
   refine dpeel fun b7 l8 n9 d7 => ?_
   exact cond_t (decide_eq_true (q1.trans q6.symm)) (cond_t (Dy.same_iff.2 (d2.trans d7.symm)) (cond_t (decide_eq_true (q5.trans c)) (cond_t (Dy.same_iff.2 rfl) trivial)))
  ·refine cond_t (by rw [decide_eq_false c]; rfl) ?_
   have k0 : Dy.redK ⟨s, m, e⟩ b = 0 := by unfold Dy.redK; rw [if_neg c]
   have r0 : Dy.redR ⟨s, m, e⟩ b = Dy.zeroD := by unfold Dy.redR; rw [if_neg c]
   exact cond_t (decide_eq_true (q1.trans k0)) (cond_t (Dy.same_iff.2 (d2.trans r0)) (cond_t (decide_eq_true q5) trivial))
 ·have h1 := of_decide_eq_false h1
  have h2 := of_decide_eq_false h2
  have hb : b ≤ 1500 ∨ 6000 < b := .inl (by omega)
  refine ⟨⟨Nat.zero_le _, by omega⟩, hb, ?_⟩
  simp only [List.nil_append]
  intro n1 q1
  refine dpeel fun b2 l3 n4 d2 => ?_
  intro n5 q5
  refine cond_f (by rw [Dy.same_iff.2 rfl]; rfl) ?_
  by_cases c : Dy.refuse ⟨s, m, e⟩ b = 0
  ·refine cond_f (by rw [decide_eq_true c]; rfl) ⟨⟨c, by have := (Dy.refuse_ok.1 c).2.2.1; omega⟩, ?_⟩
   intro n6 q6
   refine dpeel fun b7 l8 n9 d7 => ?_
   exact cond_t (decide_eq_true (q1.trans q6.symm)) (cond_t (Dy.same_iff.2 (d2.trans d7.symm)) (cond_t (decide_eq_true (q5.trans c)) (cond_t (Dy.same_iff.2 rfl) trivial)))
  ·refine cond_t (by rw [decide_eq_false c]; rfl) ?_
   have k0 : Dy.redK ⟨s, m, e⟩ b = 0 := by unfold Dy.redK; rw [if_neg c]
   have r0 : Dy.redR ⟨s, m, e⟩ b = Dy.zeroD := by unfold Dy.redR; rw [if_neg c]
   exact cond_t (decide_eq_true (q1.trans k0)) (cond_t (Dy.same_iff.2 (d2.trans r0)) (cond_t (decide_eq_true q5) trivial))
end Go.AI

namespace Go.AI
open Go Go.RowKit Go.Proofs Go.ChangeShapes Go.WideShapes Go.ChangeAt
set_option linter.unusedVariables false
set_option maxRecDepth 100000
theorem rowOwn : ownKnob Tryz.prog.godebug = none := by kernel_rfl
theorem rowOut : laidOutB Tryz.prog = true := by kernel_rfl
theorem gTab : Tryz.prog.globalNamed "math/bits.deBruijn32tab" = some 0 := by kernel_rfl
abbrev tabLaid : List (String × DataW Unit) := [("math/bits.deBruijn32tab", YtppdoggngcpcpaaGreatDoor.Rows.laid_math_bits_deBruijn32tab)]
theorem tab_eq : (YtppdoggngcpcpaaGreatDoor.Rows.laid_math_bits_deBruijn32tab : DataW Unit) = Lib.tabData .u8 (Lib.deBruijn32tab.map fun (x : Nat) => (x : Int)) := by rfl
theorem inv_of_laid {W : World} (h : laidMetH Tryz.prog tabLaid W) : Inv W := by
 rw [MakeChecks.laidMetH_plain _ _ _ (by kernel_rfl)] at h
 unfold tabLaid at h
 rw [tab_eq] at h
 have hT := Lib.tabIs_of_head (rest := []) gTab (by kernel_rfl : (Tryz.prog.globals[0]?).map (·.type) = some 129) Tryz.underlying129 Tryz.underlying5 (by kernel_rfl) (by kernel_rfl) h
 intro j hj
 have := hT.cell gTab j (by rw [List.length_map, show Lib.deBruijn32tab.length = 32 from rfl]; exact hj)
 rw [this]
 have hl : j < Lib.deBruijn32tab.length := hj
 simp [List.getD_eq_getElem?_getD, hl]
abbrev allβ (W : World) : Nat → Nat → Prop := fun _ x => x < W.heap.size
theorem weights_part {H : Type} {P : Program} {ts : List TypeId} {ds : List (DataW H)} (h : (DataW.weightsEach P ts ds).all (· ≤ reachBytes) = true) {j : Nat} {t : TypeId} {d : DataW H} (ht : ts[j]? = some t) (hd : ds[j]? = some d) {n : Nat} (hn : n ∈ d.weights P t) : n ≤ reachBytes := by
 have := List.all_eq_true.1 h n (DataW.weights_mem_each ht hd n hn)
 simpa using this
theorem open_num {H : Type} {enc : TypeId × Value → H} {W : World} {b0 na : Nat} {t : TypeId} {k : IntKind} {v : Value} {d : DataW H} {ps : List MemPlace} (hu : Tryz.prog.underlying t = some (.int k)) (hval : Value.okWide Tryz.prog W .any b0 t v) (hd : DataW.Trod enc Tryz.prog W 0 (fun _ => true) true t v d ps) :
  ∃ n, V ⟨argBs na, allβ W, W⟩ (.num k n) v := by
 obtain ⟨n, rfl, _, _, hw⟩ := open_int hu hval hd
 refine ⟨n, ?_⟩
 simp only [V]
 simp only [Lit.wf, Bool.and_eq_true, decide_eq_true_eq] at hw
 exact ⟨trivial, hw⟩
theorem dyTypes : Tryz.prog.cellTypes Tryz.prog.depth 24 = some [4, 22, 3] := by kernel_rfl
theorem dyCells : Tryz.prog.cellsOf 24 = 3 := by kernel_rfl
theorem oneSlice : Tryz.prog.cellsOf 22 = 1 := by kernel_rfl
theorem oneU32 : Tryz.prog.cellsOf 33 = 1 := by kernel_rfl
theorem bytesU32 : Tryz.prog.bytesOf 33 = 4 := by kernel_rfl
theorem open_dy {H : Type} {enc : TypeId × Value → H} {W : World} {b0 na : Nat} {v : Value} {d : DataW H} {ps : List MemPlace} {ts : List TypeId} {ds : List (DataW H)} (i : Nat) (hi : i ≤ na) (hval : Value.okWide Tryz.prog W .any b0 24 v)
  (hd : DataW.Trod enc Tryz.prog W 0 (fun _ => true) true 24 v d ps) (hsz : (DataW.weightsEach Tryz.prog ts ds).all (· ≤ reachBytes) = true) {j : Nat} (ht : ts[j]? = some 24) (hdj : ds[j]? = some d) :
  ∃ s l e, V ⟨argBs na, allβ W, W⟩ (.agg [.bool s, .dig [i] l, .num .i64 e]) v := by
 simp only [Value.okWide, Tryz.underlying24] at hval
 obtain ⟨cs, rfl, hcs, ts', hct, _, hrow⟩ := hval
 rw [dyTypes] at hct
 cases hct
 rw [dyCells] at hcs
 obtain ⟨c0, c1, c2, rfl⟩ : ∃ c0 c1 c2, cs = #[c0, c1, c2] := by
  obtain ⟨l⟩ := cs
  match l, hcs with
  | [a, b, c], _ => exact ⟨a, b, c, rfl⟩
 obtain ⟨u0, hu0, k0⟩ := hrow 0 c0 rfl
 obtain ⟨u1, hu1, k1⟩ := hrow 1 c1 rfl
 obtain ⟨u2, hu2, k2⟩ := hrow 2 c2 rfl
 simp at hu0 hu1 hu2
 subst hu0 hu1 hu2
 obtain ⟨fuel, hf⟩ := hd
 obtain ⟨y0, y1, y2, n, hx, _, g0, g1, g2⟩ := Deep.trod_struct3 Tryz.underlying24 hf
 simp only [Value.cells, oneSlice] at g1
 simp only [Prod.mk.injEq] at hx
 obtain ⟨rfl, -⟩ := hx
 have hb : ∃ s, c0 = .bool s := by
  simp only [Cell.okWide, Cell.ok, Tryz.underlying4] at k0
  cases c0 <;> simp at k0
  exact ⟨_, rfl⟩
 have he : ∃ e, c2 = .int .i64 e ∧ IntKind.i64.min ≤ e ∧ e ≤ IntKind.i64.max := by
  simp only [Cell.okWide, Cell.ok, Tryz.underlying3] at k2
  cases c2 <;> simp at k2
  obtain ⟨rfl, h⟩ := k2
  exact ⟨_, rfl, h.1, h.2⟩
 obtain ⟨s, rfl⟩ := hb
 obtain ⟨e, rfl, he⟩ := he
 have g1' : DataW.trod enc Tryz.prog W 0 (fun _ => true) true n 22 [c1] = some y1 := g1
 have hborn : Ctx.born ⟨argBs na, allβ W, W⟩ [i] := fun j hj => by
  simp at hj; subst hj
  show argBs na j ≠ _
  unfold argBs
  rw [if_pos hi]
  simp
 rcases open_ints Tryz.underlying22 Tryz.underlying33 oneU32 g1' with ⟨hc, _⟩ | ⟨a, len, cap, zs, hc, _, hlen, hcap, hzl, hy, hcell, hwf⟩
 ·cases hc
  refine ⟨s, [], e, ?_⟩
  simp only [V]
  refine ⟨[.bool s, .slice none 0 0, .int .i64 e], rfl, ?_⟩
  simp only [Vs, V]
  exact ⟨trivial, ⟨hborn, ⟨by simp, by simp⟩, none, 0, rfl, fun _ => .inl ⟨rfl, rfl⟩⟩, ⟨trivial, he⟩, trivial⟩
 ·cases hc
  simp only [if_true] at hzl
  have hspot : a.spot = none ∧ ∃ cells T fr, W.heap[a.block]? = some (.cells cells T fr) := by
   simp only [Cell.okWide, Cell.ok, Tryz.underlying22] at k1
   obtain ⟨_, _, h3⟩ := k1
   unfold World.has at h3
   obtain ⟨_, h4, row, cells, h5, _⟩ := h3
   refine ⟨h4, ?_⟩
   unfold World.shape? at h5
   split at h5
   ·rename_i c el fr hh
    exact ⟨c, el, fr, hh⟩
   ·cases h5
  obtain ⟨hsp, cells, T, fr, hheap⟩ := hspot
  obtain ⟨b, off, sp⟩ := a
  simp only at hsp hheap
  subst hsp
  have hwz : ∀ z ∈ zs, 0 ≤ z ∧ z < 4294967296 := fun z hz => by
   have := hwf z hz
   simp only [Lit.wf, Bool.and_eq_true, decide_eq_true_eq] at this
   exact range_u32 this
  have hll : ((zs.take len).map Int.toNat).length = len := by simp; omega
  refine ⟨s, (zs.take len).map Int.toNat, e, ?_⟩
  simp only [V]
  refine ⟨[.bool s, .slice (some ⟨b, off, none⟩) len cap, .int .i64 e], rfl, ?_⟩
  simp only [Vs, V]
  refine ⟨trivial, ⟨hborn, ⟨?_, fun x hx => ?_⟩, some ⟨b, off, none⟩, cap, by rw [hll], fun _ => .inr ⟨b, off, cells, T, fr, rfl, ⟨i, by simp, ?_⟩, hheap, by omega, fun j hj => ?_, fun j x hj => ?_⟩⟩, ⟨trivial, he⟩, trivial⟩
  ·rw [hll]
   have hw : (((lits .u32 (zs.take len) : List (DataW H)).length + (lits .u32 (zs.drop len) : List (DataW H)).length) * 4) ≤ reachBytes := by
    refine weights_part hsz ht hdj ?_
    have hy1 := congrArg Prod.fst hy
    simp only at hy1
    simp only [DataW.weights, Tryz.underlying24, DataW.weightsEach, hy1, Tryz.underlying22, bytesU32, List.map_cons, List.map_nil]
    simp
   have := reachBytes_lt
   simp [lits] at hw
   omega
  ·simp only [List.mem_map] at hx
   obtain ⟨z, hz, rfl⟩ := hx
   have := hwz z (List.mem_of_mem_take hz)
   omega
  ·exact (Array.getElem?_eq_some_iff.1 hheap).1
  ·have hc := hcell j (by omega)
   rw [add_none, cell?_of_block hheap] at hc
   exact (Array.getElem?_eq_some_iff.1 hc).1
  ·have hjl : j < len := by
    have := (List.getElem?_eq_some_iff.1 hj).1
    omega
   have hc := hcell j (by omega)
   rw [add_none, cell?_of_block hheap] at hc
   rw [hc]
   simp only [List.getElem?_map, List.getElem?_take, if_pos hjl] at hj
   obtain ⟨z, hz, rfl⟩ := Option.map_eq_some_iff.1 hj
   have := hwz z (List.mem_of_getElem? hz)
   simp only [List.getD_eq_getElem?_getD, hz, Option.getD_some]
   congr 2
   omega
end Go.AI
