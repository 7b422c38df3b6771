/-
  The given law laws.FnExactCountCrossings returns true for every list: the program's CountCrossings answers as the reference's. No condition.
-/
import Derived.Test.YtaegjapbkkfpdaaEvX
import Derived.Test.YtaegjapbkkfpdaaPlainG
import Derived.Test.YtaegjapbkkfpdaaGlCountCrossings
namespace Go.Proofs.Ytaegjapbkkfpdaa.Pure
open Go.RowKit Go.Proofs.Ytaegjapbkkfpdaa.G Go.Proofs.Ytaegjapbkkfpdaa.Plain Go.Proofs.YtaegjapbkkfpdaaW.PrintWords Go.Proofs.YtaegjapbkkfpdaaW.PrintLast

/-- What CountCrossings answers. -/
def CountCrossingsR (w : List Int) : Int × Int := if isWordB w = true then ((outF (fun j i => crossB w i j) (w.length / 2) 0 : Nat), 0) else (0, 1)
theorem spec_count_inner (w : List Int) (h : isWordB w = true) (i : Nat) (hi : i < w.length / 2) (r : Int × Int) (c0 : Nat) (hc0 : c0 ≤ 100)
    (hr : Ev (fun n => spec_CountCrossings.l0 n (rowsL w) ((c0 + inF (fun j i => crossB w i j) i i 0 : Nat) : Int) ((i : Int) + 1)) r) :
    ∀ (d k c : Nat), k ≤ i → i - k = d → c + inF (fun j i => crossB w i j) i (i - k) k = c0 + inF (fun j i => crossB w i j) i i 0 → Ev (fun n => spec_CountCrossings.l1 n (rowsL w) c i k) r := by
  have hlen := word_length h
  have hle := inF_le (fun j i => crossB w i j) i i 0
  intro d
  induction d with
  | zero =>
    intro k c hk hd hc
    obtain rfl : k = i := by omega
    rw [Nat.sub_self] at hc
    have hc : c = c0 + inF (fun j i => crossB w i j) k k 0 := hc
    refine Ev.step (fun n => by rw [spec_CountCrossings.l1]) ?_
    refine Ev.ite_neg (by omega) ?_
    rw [wrap_of (by omega) (by omega), hc]
    exact hr
  | succ d ih =>
    intro k c hk hd hc
    refine Ev.step (fun n => by rw [spec_CountCrossings.l1]) ?_
    refine Ev.ite_pos (by omega) (Ev.ite_pos (by omega) (Ev.ite_pos (by rw [rowsL_length]; omega) (Ev.ite_pos (by omega) (Ev.ite_pos (by rw [rows_len w hi]; omega) ?_))))
    rw [rows_get w hi (by omega)]
    have e : i - k = (i - (k + 1)) + 1 := by omega
    rw [e, inF] at hc
    have hn : oneAt w i k = (((if crossB w i k = true then 1 else 0 : Nat)) : Int) := by unfold oneAt; split <;> rfl
    rw [hn, wrap_of (by omega) (by split <;> omega), wrap_of (by omega) (by omega)]
    have h2 := ih (k + 1) (c + (if crossB w i k = true then 1 else 0)) (by omega) (by omega) (by omega)
    simpa using h2
theorem spec_count_loop (w : List Int) (h : isWordB w = true) : ∀ (d i c : Nat), i ≤ w.length / 2 → w.length / 2 - i = d → c ≤ 12 * i → c + outF (fun j i => crossB w i j) (w.length / 2 - i) i = outF (fun j i => crossB w i j) (w.length / 2) 0 →
    Ev (fun n => spec_CountCrossings.l0 n (rowsL w) c i) (((outF (fun j i => crossB w i j) (w.length / 2) 0 : Nat) : Int), 0) := by
  have hlen := word_length h
  intro d
  induction d with
  | zero =>
    intro i c hi hd hc he
    obtain rfl : i = w.length / 2 := by omega
    rw [Nat.sub_self] at he
    have he : c = _ := he
    refine Ev.step (fun n => by rw [spec_CountCrossings.l0]) ?_
    refine Ev.ite_neg (by rw [rowsL_length]; omega) ?_
    rw [← he]
    exact Ev.now _
  | succ d ih =>
    intro i c hi hd hc he
    have e : w.length / 2 - i = (w.length / 2 - (i + 1)) + 1 := by omega
    rw [e, outF] at he
    have hle := inF_le (fun j i => crossB w i j) i i 0
    refine Ev.step (fun n => by rw [spec_CountCrossings.l0]) ?_
    refine Ev.ite_pos (by rw [rowsL_length]; omega) ?_
    have h2 := spec_count_inner w h i (by omega) _ c (by omega) (ih (i + 1) (c + inF (fun j i => crossB w i j) i i 0) (by omega) (by omega) (by omega) (by omega)) i 0 c (by omega) (by omega) (by simp)
    simpa using h2
theorem ev_spec_CountCrossings (w : List Int) (hl : w.length ≤ 1048576) : Ev (fun n => spec_CountCrossings.f n w) (CountCrossingsR w) := by
  unfold spec_CountCrossings.f CountCrossingsR
  refine Ev.bind (ev_spec_l01Is w) ?_
  by_cases h : isWordB w = true
  · rw [if_pos h]
    refine Ev.ite_pos h (Ev.bind (ev_spec_l01Cross w h) ?_)
    have h2 := spec_count_loop w h (w.length / 2) 0 0 (by omega) (by omega) (by omega) (by simp)
    simpa using h2
  · rw [if_neg h]
    exact Ev.ite_neg h (Ev.now _)
/-- Enough rounds for all pairs. -/
theorem rounds_all {p : Nat → Nat → Nat → Prop} : ∀ N : Nat, (∀ i j, i < N → j < i → ∃ K, ∀ k, K ≤ k → p k i j) → ∃ K, ∀ k, K ≤ k → ∀ i j, i < N → j < i → p k i j
  | 0, _ => ⟨0, fun _ _ i j hi => by omega⟩
  | N + 1, h => by
    obtain ⟨K, hK⟩ := rounds_all N (fun i j hi hj => h i j (by omega) hj)
    have row : ∀ M : Nat, M ≤ N → ∃ K, ∀ k, K ≤ k → ∀ j, j < M → p k N j := by
      intro M
      induction M with
      | zero => intro _; exact ⟨0, fun _ _ j hj => by omega⟩
      | succ M ih =>
        intro hM
        obtain ⟨K1, h1⟩ := ih (by omega)
        obtain ⟨K2, h2⟩ := h N M (by omega) (by omega)
        refine ⟨max K1 K2, fun k hk j hj => ?_⟩
        by_cases e : j = M
        · subst e; exact h2 k (by omega)
        · exact h1 k (by omega) j (by omega)
    obtain ⟨K3, h3⟩ := row N (Nat.le_refl _)
    refine ⟨max K K3, fun k hk i j hi hj => ?_⟩
    by_cases e : i = N
    · subst e; exact h3 k (by omega) j hj
    · exact hK k (by omega) i j (by omega) hj
theorem ev_impl_CountCrossings (w : List Int) (hl : w.length ≤ 1048576) (hw : wfB w = true) : Ev (fun n => impl_CountCrossings.f n w) (CountCrossingsR w) := by
  unfold impl_CountCrossings.f CountCrossingsR
  refine Ev.bind (ev_impl_IsWord w hw) ?_
  by_cases h : isWordB w = true
  · rw [if_pos h]
    refine Ev.ite_pos h ?_
    have hlen := word_length h
    obtain ⟨K, hK⟩ := rounds_all (p := fun k i j => impl_cross.f k w j i = some (crossB w i j)) (w.length / 2) (fun i j hi hj => by
      have ci := word_count h (x := (i : Int)) (by omega) (by omega)
      have cj := word_count h (x := (j : Int)) (by omega) (by omega)
      obtain ⟨K, hK⟩ := ev_impl_cross w j i (by omega) cj ci
      exact ⟨K, fun k hk => (hK k hk).trans (congrArg some (crossB_comm cj ci))⟩)
    refine ⟨K, fun k hk => ?_⟩
    have hp : pairsOk k w = true := by
      refine List.all_eq_true.2 fun i hi => List.all_eq_true.2 fun j hj => ?_
      rw [hK k hk i j (List.mem_range.1 hi) (List.mem_range.1 hj)]; rfl
    show (if pairsOk k w = true ∧ w.length ≤ 1048576 then _ else _) = _
    rw [if_pos ⟨hp, hl⟩]
    have e : outF (crossP k w) (w.length / 2) 0 = outF (fun j i => crossB w i j) (w.length / 2) 0 := outF_congr _ _ fun x y hx hy => by
      unfold crossP
      rw [hK k hk y x (by omega) hx]; rfl
    rw [e]
  · rw [if_neg h]
    exact Ev.ite_neg h (Ev.now _)
theorem FnExactCountCrossings : laws_FnExactCountCrossings.Pure := by
  intro l0 hml0 hsl0 hwl0
  have hfl0 : wfB l0 = true := List.all_eq_true.2 hwl0
  refine Ev.rounds ?_
  unfold laws_FnExactCountCrossings.f
  by_cases hl0 : l0.length ≤ 1048576
  rotate_left
  · exact Ev.ite_pos (by omega) (Ev.now _)
  have S := ev_spec_CountCrossings l0 hl0
  have I := ev_impl_CountCrossings l0 hl0 hfl0
  have Tl0 := ev_toInt64S l0 (by omega)
  have El0 := ev_eq_same l0 (by omega)
  have Ml0 := ev_markInt64S l0 1 (by omega) (by omega)
  repeat (first
    | exact Ev.now _
    | refine Ev.bind Tl0 ?_
    | refine Ev.bind S ?_
    | refine Ev.bind I ?_
    | refine Ev.bind El0 ?_
    | refine Ev.bind Ml0 ?_
    | refine Ev.ite_pos rfl ?_
    | (refine Ev.ite_neg ?_ ?_; focus (first | (simp; done) | (simp; omega) | omega))
    | (apply Ev.step; focus (intro n; first | rw [laws_FnExactCountCrossings.j0])))
end Go.Proofs.Ytaegjapbkkfpdaa.Pure
