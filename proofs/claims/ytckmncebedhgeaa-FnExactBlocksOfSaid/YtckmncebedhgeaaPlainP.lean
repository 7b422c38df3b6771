/-
  Plain lemmas on marks of numbers that have been met, and on the blocks of a word. No program in sight.
-/
import Derived.Test.YtckmncebedhgeaaPlainB
namespace Go.Proofs.Ytckmncebedhgeaa.Plain
open Go.RowKit Go.Maps Go.Proofs.YtckmncebedhgeaaW.PrintWords Go.Proofs.YtckmncebedhgeaaW.PrintLast Go.Proofs.YtckmncebedhgeaaW.PrintMore
set_option linter.unusedVariables false
set_option linter.unusedSimpArgs false
theorem mem_take_snoc {l : List Int} {k : Nat} (hk : k < l.length) (x : Int) : x ∈ l.take (k + 1) ↔ x ∈ l.take k ∨ l[k] = x := by
  rw [List.take_succ_eq_append_getElem hk]
  simp only [List.mem_append, List.mem_singleton]
  exact ⟨fun h => h.imp id Eq.symm, fun h => h.imp id Eq.symm⟩
/-- The marks of the numbers that have been met. -/
def flagsL (n : Nat) (l : List Int) : List Bool := (List.range n).map fun (i : Nat) => decide ((i : Int) ∈ l)
theorem flagsL_length (n : Nat) (l : List Int) : (flagsL n l).length = n := by simp [flagsL]
theorem flagsL_nil (n : Nat) : flagsL n [] = List.replicate n false := by
  apply List.ext_getElem
  · simp [flagsL]
  · intro i h1 h2; simp [flagsL]
theorem flagsL_set {n : Nat} {s : List Int} {k : Nat} (hk : k < s.length) (h0 : 0 ≤ s[k]) : (flagsL n (s.take k)).set s[k].toNat true = flagsL n (s.take (k + 1)) := by
  apply List.ext_getElem
  · simp [flagsL]
  · intro i h1 h2
    rw [List.getElem_set]
    simp only [flagsL, List.getElem_map, List.getElem_range]
    have hm : ((i : Int) ∈ s.take (k + 1)) ↔ ((i : Int) ∈ s.take k ∨ s[k] = (i : Int)) := mem_take_snoc hk (i : Int)
    by_cases e : s[k].toNat = i
    · rw [if_pos e]
      symm
      rw [decide_eq_true_iff, hm]
      right; omega
    · rw [if_neg e, decide_eq_decide, hm]
      constructor
      · exact fun h => .inl h
      · rintro (h | h)
        · exact h
        · omega
theorem flagsL_keep {n : Nat} {s : List Int} {k : Nat} (hk : k < s.length) (h : s[k] ∈ s.take k) : flagsL n (s.take (k + 1)) = flagsL n (s.take k) := by
  unfold flagsL
  apply List.map_congr_left
  intro i _
  rw [decide_eq_decide, mem_take_snoc hk]
  constructor
  · rintro (h2 | h2)
    · exact h2
    · rw [← h2]; exact h
  · exact fun h2 => .inl h2
theorem flagsL_get {n : Nat} {l : List Int} {x : Int} (h0 : 0 ≤ x) (h1 : x < (n : Int)) : (flagsL n l).getD x.toNat false = decide (x ∈ l) := by
  unfold flagsL
  rw [List.getD_eq_getElem?_getD, List.getElem?_map, List.getElem?_range (by omega)]
  have e : ((x.toNat : Nat) : Int) = x := by omega
  simp [e]
/-- How many numbers of a list stand in it once. -/
def onces (l : List Int) : Nat := l.countP fun y => l.count y == 1
theorem onces_nil : onces [] = 0 := rfl
theorem onces_new {l : List Int} {x : Int} (h : x ∉ l) : onces (l ++ [x]) = onces l + 1 := by
  unfold onces
  rw [List.countP_append]
  have e1 : l.countP (fun y => (l ++ [x]).count y == 1) = l.countP (fun y => l.count y == 1) := by
    apply List.countP_congr
    intro y hy
    have hne : y ≠ x := fun e => h (e ▸ hy)
    rw [List.count_append, List.count_singleton]
    simp [Ne.symm hne]
  have e2 : (l ++ [x]).count x = 1 := by rw [List.count_append, List.count_eq_zero.2 h]; simp
  rw [e1, List.countP_singleton, e2]
  rfl
theorem onces_old {l : List Int} {x : Int} (h : l.count x = 1) : onces (l ++ [x]) + 1 = onces l := by
  unfold onces
  rw [List.countP_append]
  have e2 : (l ++ [x]).count x = 2 := by rw [List.count_append, h]; simp
  have e3 : [x].countP (fun y => (l ++ [x]).count y == 1) = 0 := by rw [List.countP_singleton, e2]; rfl
  rw [e3]
  have key : ∀ m : List Int, (∀ y ∈ m, y ∈ l) → m.countP (fun y => l.count y == 1) = m.countP (fun y => (l ++ [x]).count y == 1) + m.count x := by
    intro m
    induction m with
    | nil => intro _; rfl
    | cons y m ih =>
      intro hm
      have ih2 := ih (fun z hz => hm z (List.mem_cons_of_mem _ hz))
      rw [List.countP_cons, List.countP_cons, List.count_cons, ih2]
      by_cases e : y = x
      · subst e
        rw [h, e2]
        simp
        omega
      · have e4 : (l ++ [x]).count y = l.count y := by
          rw [List.count_append, List.count_singleton]; simp [Ne.symm e]
        rw [e4]
        simp [e]
        omega
  have h2 := key l (fun _ hy => hy)
  rw [h] at h2
  omega
theorem onces_zero {w : List Int} (h : twiceB w = true) {k : Nat} : onces (w.take k) = 0 ↔ twiceB (w.take k) = true := by
  unfold onces twiceB
  rw [List.countP_eq_zero, List.all_eq_true]
  constructor
  · intro h2 y hy
    have h3 := h2 y hy
    have h4 : 1 ≤ (w.take k).count y := List.count_pos_iff.2 hy
    have h5 : (w.take k).count y ≤ w.count y := (List.take_sublist k w).count_le y
    have h6 : w.count y = 2 := count_of_twice h (List.mem_of_mem_take hy)
    simp only [beq_iff_eq] at h3 ⊢
    omega
  · intro h2 y hy
    have h3 := h2 y hy
    simp only [beq_iff_eq] at h3 ⊢
    omega
/-- A window behind what is whole: whole, where all up to its end is. -/
theorem window_whole {w : List Int} (h : twiceB w = true) {b k : Nat} (hb : twiceB (w.take b) = true) (hbk : b ≤ k) : twiceB ((w.take k).drop b) = twiceB (w.take k) := by
  have e : w.take k = w.take b ++ (w.take k).drop b := by
    have h1 := List.take_append_drop b (w.take k)
    rw [List.take_take, Nat.min_eq_left hbk] at h1
    exact h1.symm
  have hc : ∀ y ∈ w.take b, (w.take b).count y = 2 := fun y hy => count_of_twice hb hy
  have hap : ∀ y, y ∈ w.take b → y ∉ (w.take k).drop b := by
    intro y hy hy2
    have h1 : (w.take k).count y ≤ w.count y := (List.take_sublist k w).count_le y
    have h2 : w.count y = 2 := count_of_twice h (List.mem_of_mem_take hy)
    have h3 : 1 ≤ ((w.take k).drop b).count y := List.count_pos_iff.2 hy2
    have h4 := hc y hy
    rw [e, List.count_append] at h1
    omega
  rw [Bool.eq_iff_iff]
  unfold twiceB
  rw [List.all_eq_true, List.all_eq_true]
  constructor
  · intro h1 y hy
    rw [e] at hy ⊢
    rw [List.count_append]
    rcases List.mem_append.1 hy with hy | hy
    · rw [hc y hy, List.count_eq_zero.2 (hap y hy)]; rfl
    · have h2 := h1 y hy
      rw [List.count_eq_zero.2 (fun h3 => hap y h3 hy)]
      simpa using h2
  · intro h1 y hy
    have h2 := h1 y (by rw [e]; exact List.mem_append.2 (.inr hy))
    rw [e, List.count_append, List.count_eq_zero.2 (fun h3 => hap y h3 hy)] at h2
    simpa using h2
/-- The blocks from place k on, the block of now having begun at b. -/
def blocksF (w : List Int) : Nat → Nat → Nat → List (List Int) → List (List Int)
  | 0, _, _, out => out
  | d + 1, k, b, out => if twiceB (w.take (k + 1)) = true then blocksF w d (k + 1) (k + 1) (out ++ [normalL ((w.take (k + 1)).drop b)]) else blocksF w d (k + 1) b out
theorem blocksF_le (w : List Int) : ∀ (d k b : Nat) (out : List (List Int)) (m : Nat), (∀ r ∈ out, r.length ≤ m) → w.length ≤ m → (blocksF w d k b out).length ≤ out.length + d ∧ ∀ r ∈ blocksF w d k b out, r.length ≤ m
  | 0, _, _, out, m, h, _ => ⟨Nat.le_refl _, h⟩
  | d + 1, k, b, out, m, h, hm => by
    unfold blocksF
    split
    · have h2 := blocksF_le w d (k + 1) (k + 1) (out ++ [normalL ((w.take (k + 1)).drop b)]) m (fun r hr => by
        rcases List.mem_append.1 hr with hr | hr
        · exact h r hr
        · rw [List.mem_singleton.1 hr, normalL_length, List.length_drop, List.length_take]; omega) hm
      refine ⟨?_, h2.2⟩
      have := h2.1
      simp at this
      omega
    · have h2 := blocksF_le w d (k + 1) b out m h hm
      exact ⟨by omega, h2.2⟩
end Go.Proofs.Ytckmncebedhgeaa.Plain
