/-
  Plain laws of pairs of chords that are nested, and that are apart. No condition but sizes.
-/
import Derived.Test.YtckmncebedhgeaaEvX
import Derived.Test.YtckmncebedhgeaaPlainG
import Derived.Test.YtckmncebedhgeaaG89
import Derived.Test.YtckmncebedhgeaaG94
import Derived.Test.YtckmncebedhgeaaGgS
namespace Go.Proofs.Ytckmncebedhgeaa.Pure
open Go.RowKit Go.Proofs.Ytckmncebedhgeaa.G Go.Proofs.Ytckmncebedhgeaa.Plain Go.Proofs.YtckmncebedhgeaaW.PrintWords Go.Proofs.YtckmncebedhgeaaW.PrintLast

theorem ev_spec_l02Code (w : List Int) : Ev (fun n => spec_l02Code.f n w) (if isWordB w = true then 0 else 1) := by
  unfold spec_l02Code.f
  refine Ev.bind (ev_spec_l01Is w) ?_
  by_cases h : isWordB w = true
  · refine Ev.ite_pos h ?_
    rw [if_pos h]; exact Ev.now _
  · refine Ev.ite_neg h ?_
    rw [if_neg h]; exact Ev.now _
/-- As the reference has them: the second chord begins within the first, or behind it. -/
def nestS (w : List Int) (i k : Int) : Bool := !crossB w i k && decide (fstP w k < sndP w i)
def apartS (w : List Int) (i k : Int) : Bool := !crossB w i k && !decide (fstP w k < sndP w i)
theorem upF_le (p : Int → Int → Bool) (i : Nat) : ∀ d k : Nat, upF p i d k ≤ d
  | 0, _ => Nat.le_refl _
  | d + 1, k => by
    have := upF_le p i d (k + 1)
    unfold upF
    split <;> omega
theorem pairs_inner (w : List Int) (h : isWordB w = true) (i : Nat) (hi : i < w.length / 2) (r : Int × Int) : ∀ (d k a b : Nat), w.length / 2 - k = d → k ≤ w.length / 2 → a ≤ 12 * i + k → b ≤ 12 * i + k →
    Ev (fun n => spec_l02Pairs.l0 n w ((a + upF (nestS w) i d k : Nat) : Int) ((b + upF (apartS w) i d k : Nat) : Int) (rowsL w) ((i : Int) + 1)) r →
    Ev (fun n => spec_l02Pairs.l1 n w a b (rowsL w) i k) r := by
  have hlen := word_length h
  have ci := word_count h (x := (i : Int)) (by omega) (by omega)
  intro d
  induction d with
  | zero =>
    intro k a b hd hk ha hb hr
    refine Ev.step (fun n => by rw [spec_l02Pairs.l1]) ?_
    refine Ev.ite_neg (by rw [rowsL_length]; omega) ?_
    rw [wrap_of (by omega) (by omega)]
    exact hr
  | succ d ih =>
    intro k a b hd hk ha hb hr
    have ck := word_count h (x := (k : Int)) (by omega) (by omega)
    refine Ev.step (fun n => by rw [spec_l02Pairs.l1]) ?_
    refine Ev.ite_pos (by rw [rowsL_length]; omega) (Ev.bind (ev_spec_l01Places w i (by omega) ci) (Ev.bind (ev_spec_l01Places w k (by omega) ck) ?_))
    refine Ev.ite_pos (by omega) (Ev.ite_pos (by rw [rowsL_length]; omega) (Ev.ite_pos (by omega) (Ev.ite_pos (by rw [rows_len w hi]; omega) ?_)))
    rw [rows_get w hi (by omega), wrap_of (x := (k : Int) + 1) (by omega) (by omega), wrap_of (x := (a : Int) + 1) (by omega) (by omega), wrap_of (x := (b : Int) + 1) (by omega) (by omega)]
    rw [upF, upF] at hr
    unfold oneAt
    by_cases hc : crossB w i k = true
    · have e1 : nestS w i k = false := by unfold nestS; rw [hc]; rfl
      have e2 : apartS w i k = false := by unfold apartS; rw [hc]; rfl
      rw [e1, e2] at hr
      rw [if_pos hc]
      refine Ev.ite_pos rfl ?_
      refine ih (k + 1) a b (by omega) (by omega) (by omega) (by omega) ?_
      simpa using hr
    · rw [if_neg hc]
      refine Ev.ite_neg (by decide) ?_
      have hc2 : crossB w i k = false := by simpa using hc
      by_cases hp : fstP w k < sndP w i
      · have e1 : nestS w i k = true := by unfold nestS; rw [hc2]; simp [hp]
        have e2 : apartS w i k = false := by unfold apartS; rw [hc2]; simp [hp]
        rw [e1, e2] at hr
        refine Ev.ite_pos (by omega) ?_
        refine ih (k + 1) (a + 1) b (by omega) (by omega) (by omega) (by omega) ?_
        simpa [Nat.add_assoc] using hr
      · have e1 : nestS w i k = false := by unfold nestS; rw [hc2]; simp; omega
        have e2 : apartS w i k = true := by unfold apartS; rw [hc2]; simp; omega
        rw [e1, e2] at hr
        refine Ev.ite_neg (by omega) ?_
        refine ih (k + 1) a (b + 1) (by omega) (by omega) (by omega) (by omega) ?_
        simpa [Nat.add_assoc] using hr
theorem pairs_loop (w : List Int) (h : isWordB w = true) : ∀ (d i a b : Nat), i ≤ w.length / 2 → w.length / 2 - i = d → a ≤ 12 * i → b ≤ 12 * i →
    Ev (fun n => spec_l02Pairs.l0 n w a b (rowsL w) i) (((a + upOut (nestS w) (w.length / 2) d i : Nat) : Int), ((b + upOut (apartS w) (w.length / 2) d i : Nat) : Int)) := by
  have hlen := word_length h
  intro d
  induction d with
  | zero =>
    intro i a b hi hd ha hb
    refine Ev.step (fun n => by rw [spec_l02Pairs.l0]) ?_
    refine Ev.ite_neg (by rw [rowsL_length]; omega) ?_
    exact Ev.now _
  | succ d ih =>
    intro i a b hi hd ha hb
    refine Ev.step (fun n => by rw [spec_l02Pairs.l0]) ?_
    refine Ev.ite_pos (by rw [rowsL_length]; omega) ?_
    rw [wrap_of (by omega) (by omega), upOut, upOut]
    have l1 := upF_le (nestS w) i (w.length / 2 - (i + 1)) (i + 1)
    have l2 := upF_le (apartS w) i (w.length / 2 - (i + 1)) (i + 1)
    have h2 := ih (i + 1) (a + upF (nestS w) i (w.length / 2 - (i + 1)) (i + 1)) (b + upF (apartS w) i (w.length / 2 - (i + 1)) (i + 1)) (by omega) (by omega) (by omega) (by omega)
    have h3 := pairs_inner w h i (by omega) _ (w.length / 2 - (i + 1)) (i + 1) a b rfl (by omega) (by omega) (by omega) h2
    rw [Nat.add_assoc, Nat.add_assoc] at h3
    exact h3
theorem ev_spec_l02Pairs (w : List Int) (h : isWordB w = true) : Ev (fun n => spec_l02Pairs.f n w) (((outF (nestS w) (w.length / 2) 0 : Nat) : Int), ((outF (apartS w) (w.length / 2) 0 : Nat) : Int)) := by
  unfold spec_l02Pairs.f
  refine Ev.bind (ev_spec_l01Cross w h) ?_
  have h2 := pairs_loop w h (w.length / 2) 0 0 0 (by omega) (by omega) (by omega) (by omega)
  rw [up_out, up_out, Nat.zero_add, Nat.zero_add] at h2
  exact h2
theorem ev_impl_nested (w : List Int) (i k : Int) (hl : w.length ≤ 12) (hi : w.count i = 2) (hk : w.count k = 2) : Ev (fun n => impl_nested.f n w i k) (nestB w i k) := by
  unfold impl_nested.f nestB
  refine Ev.bind (ev_impl_places w i (by omega) hi) (Ev.bind (ev_impl_places w k (by omega) hk) (Ev.bind (ev_impl_cross w i k (by omega) hi hk) ?_))
  by_cases hc : crossB w i k = true
  · refine Ev.ite_pos hc ?_
    rw [hc]
    exact Ev.now _
  · refine Ev.ite_neg hc (Ev.const ?_)
    have hc2 : crossB w i k = false := by simpa using hc
    rw [hc2]
    simp
theorem nest_same {w : List Int} (h : isWordB w = true) {x y : Nat} (hx : x < y) (hy : y < w.length / 2) : nestB w x y = nestS w x y := by
  have cx := word_count h (x := (x : Int)) (by omega) (by omega)
  have cy := word_count h (x := (y : Int)) (by omega) (by omega)
  unfold nestB nestS
  by_cases hc : crossB w x y = true
  · rw [hc]; rfl
  · have hc2 : crossB w x y = false := by simpa using hc
    rw [hc2]
    congr 1
    rw [decide_eq_decide]
    exact nest_iff h cx cy (by omega) hc2
theorem apart_same {w : List Int} (h : isWordB w = true) {x y : Nat} (hx : x < y) (hy : y < w.length / 2) : (if crossB w x y = true then false else !nestB w x y) = apartS w x y := by
  rw [nest_same h hx hy]
  unfold nestS apartS
  by_cases hc : crossB w x y = true
  · rw [if_pos hc, hc]; rfl
  · rw [if_neg hc]
    have hc2 : crossB w x y = false := by simpa using hc
    rw [hc2]
    simp
/-- Enough rounds for all pairs. -/
theorem rounds_all {p : Nat → Nat → Nat → Prop} : ∀ N : Nat, (∀ i j, i < N → j < i → ∃ K, ∀ k, K ≤ k → p k i j) → ∃ K, ∀ k, K ≤ k → ∀ i j, i < N → j < i → p k i j
  | 0, _ => ⟨0, fun _ _ i j hi => by omega⟩
  | N + 1, h => by
    obtain ⟨K, hK⟩ := rounds_all N (fun i j hi hj => h i j (by omega) hj)
    have row : ∀ M : Nat, M ≤ N → ∃ K, ∀ k, K ≤ k → ∀ j, j < M → p k N j := by
      intro M
      induction M with
      | zero => intro _; exact ⟨0, fun _ _ j hj => by omega⟩
      | succ M ih =>
        intro hM
        obtain ⟨K1, h1⟩ := ih (by omega)
        obtain ⟨K2, h2⟩ := h N M (by omega) (by omega)
        refine ⟨max K1 K2, fun k hk j hj => ?_⟩
        by_cases e : j = M
        · subst e; exact h2 k (by omega)
        · exact h1 k (by omega) j (by omega)
    obtain ⟨K3, h3⟩ := row N (Nat.le_refl _)
    refine ⟨max K K3, fun k hk i j hi hj => ?_⟩
    by_cases e : i = N
    · subst e; exact h3 k (by omega) j hj
    · exact hK k (by omega) i j (by omega) hj
/-- A test over all pairs, by the rounds that it takes: what is counted. -/
theorem ev_pairs (q : Nat → Int → Int → Option Bool) (p : Int → Int → Bool) (N : Nat) (hq : ∀ i j : Nat, i < N → j < i → Ev (fun n => q n j i) (p j i)) : ∃ K, ∀ k, K ≤ k → okP (q k) N = true ∧ outF (valP (q k)) N 0 = outF p N 0 := by
  obtain ⟨K, hK⟩ := rounds_all (p := fun k i j => q k j i = some (p j i)) N (fun i j hi hj => hq i j hi hj)
  refine ⟨K, fun k hk => ⟨?_, ?_⟩⟩
  · refine List.all_eq_true.2 fun i hi => List.all_eq_true.2 fun j hj => ?_
    rw [hK k hk i j (List.mem_range.1 hi) (List.mem_range.1 hj)]; rfl
  · refine outF_congr _ _ fun x y hx hy => ?_
    unfold valP
    rw [hK k hk y x (by omega) hx]; rfl
end Go.Proofs.Ytckmncebedhgeaa.Pure
