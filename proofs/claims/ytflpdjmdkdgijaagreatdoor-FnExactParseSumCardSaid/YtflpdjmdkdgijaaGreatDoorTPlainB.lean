/-
  Plain lemmas on words: what a word's numbers are, and where they stand. No program in sight.
-/
import Derived.Test.YtflpdjmdkdgijaaGreatDoorTPlainA
namespace Go.Proofs.YtflpdjmdkdgijaaGreatDoor.Plain
open Go.RowKit Go.Maps Go.Proofs.YtflpdjmdkdgijaaGreatDoorW.PrintWords Go.Proofs.YtflpdjmdkdgijaaGreatDoorW.PrintLast Go.Proofs.YtflpdjmdkdgijaaGreatDoorW.PrintMore
set_option linter.unusedVariables false
set_option linter.unusedSimpArgs false
theorem firsts_nodup (l : List Int) : (firsts l).Nodup := by
  induction l using snoc_ind with
  | h0 => simp [firsts]
  | h1 l y ih =>
    rw [firsts_snoc]
    by_cases h : (firsts l).contains y = true
    · rw [if_pos h]; exact ih
    · rw [if_neg h]
      rw [List.nodup_append]
      refine ⟨ih, by simp, fun a ha b hb => ?_⟩
      simp at hb
      subst hb
      rintro rfl
      exact h (by simpa using ha)
theorem idxOf_at {m : List Int} (hm : m.Nodup) {k : Nat} (hk : k < m.length) : m.idxOf m[k] = k := by
  have h1 : m.idxOf m[k] < m.length := List.idxOf_lt_length_iff.2 (List.getElem_mem hk)
  have h2 : m[m.idxOf m[k]] = m[k] := List.getElem_idxOf h1
  rcases Nat.lt_trichotomy (m.idxOf m[k]) k with h3 | h3 | h3
  · exact absurd h2 (List.pairwise_iff_getElem.1 hm _ _ h1 hk h3)
  · exact h3
  · exact absurd h2.symm (List.pairwise_iff_getElem.1 hm _ _ hk h1 h3)
/-- Is a list a word? -/
def isWordB (l : List Int) : Bool := decide (l.length ≤ 12) && (twiceB l && decide (normalL l = l))
theorem word_length {l : List Int} (h : isWordB l = true) : l.length ≤ 12 := by
  simp only [isWordB, Bool.and_eq_true, decide_eq_true_eq] at h; exact h.1
theorem word_twice {l : List Int} (h : isWordB l = true) : twiceB l = true := by
  simp only [isWordB, Bool.and_eq_true, decide_eq_true_eq] at h; exact h.2.1
theorem word_normal {l : List Int} (h : isWordB l = true) : normalL l = l := by
  simp only [isWordB, Bool.and_eq_true, decide_eq_true_eq] at h; exact h.2.2
theorem count_of_twice {l : List Int} (h : twiceB l = true) {x : Int} (hx : x ∈ l) : l.count x = 2 := by
  have := List.all_eq_true.1 h x hx
  simpa using this
theorem sum_const (d : List Int) (c : Nat) : (d.map fun _ => c).sum = c * d.length := by
  induction d with
  | nil => rfl
  | cons a d ih => rw [List.map_cons, List.sum_cons, ih, List.length_cons, Nat.mul_succ]; omega
/-- A list's length is the sum of how often its different numbers stand in it. -/
theorem sum_if (d : List Int) (hd : d.Nodup) (y : Int) : (d.map fun x => if y = x then 1 else 0).sum = if y ∈ d then 1 else 0 := by
  induction d with
  | nil => simp
  | cons a d ih =>
    rw [List.nodup_cons] at hd
    rw [List.map_cons, List.sum_cons, ih hd.2]
    by_cases e : y = a
    · subst e
      simp [hd.1]
    · simp [e]
theorem sum_add (d : List Int) (f g : Int → Nat) : (d.map fun x => f x + g x).sum = (d.map f).sum + (d.map g).sum := by
  induction d with
  | nil => rfl
  | cons a d ih => simp only [List.map_cons, List.sum_cons, ih]; omega
theorem length_counts (d : List Int) (hd : d.Nodup) : ∀ l : List Int, (∀ x ∈ l, x ∈ d) → l.length = (d.map fun x => l.count x).sum
  | [], _ => by simpa using (sum_const d 0).symm
  | y :: l, h => by
    have ih := length_counts d hd l (fun x hx => h x (List.mem_cons_of_mem _ hx))
    have h1 := sum_if d hd y
    rw [if_pos (h y List.mem_cons_self)] at h1
    have h2 : (d.map fun x => (y :: l).count x) = d.map fun x => l.count x + (if y = x then 1 else 0) := by
      apply List.map_congr_left
      intro x _
      rw [List.count_cons]
      by_cases e : y = x <;> simp [e]
    rw [h2, sum_add, ← ih, h1]
    rfl
theorem twice_length {l : List Int} (h : twiceB l = true) : l.length = 2 * (firsts l).length := by
  have h1 := length_counts (firsts l) (firsts_nodup l) l (fun x hx => (mem_firsts l x).2 hx)
  have h2 : ((firsts l).map fun x => l.count x) = (firsts l).map fun _ => 2 := by
    apply List.map_congr_left
    intro x hx
    exact count_of_twice h ((mem_firsts l x).1 hx)
  rw [h2] at h1
  rw [h1, sum_const]
theorem word_idx {l : List Int} (h : isWordB l = true) {x : Int} (hx : x ∈ l) : ((firsts l).idxOf x : Int) = x := by
  have hn := word_normal h
  obtain ⟨k, hk, rfl⟩ := List.getElem_of_mem hx
  have h1 : (normalL l)[k]'(by rw [normalL_length]; exact hk) = l[k] := by simp only [hn]
  unfold normalL at h1
  simpa using h1
theorem word_even {l : List Int} (h : isWordB l = true) : l.length = 2 * (firsts l).length := twice_length (word_twice h)
/-- A number of a word is from 0 on and less than the number of chords. -/
theorem word_mem {l : List Int} (h : isWordB l = true) {x : Int} (hx : x ∈ l) : 0 ≤ x ∧ x < (l.length / 2 : Nat) := by
  have h1 := word_idx h hx
  have h2 : (firsts l).idxOf x < (firsts l).length := List.idxOf_lt_length_iff.2 ((mem_firsts l x).2 hx)
  have h3 := word_even h
  omega
theorem idxOf_split {A R : List Int} {x : Int} (h : x ∉ A) : (A ++ x :: R).idxOf x = A.length := by
  rw [List.idxOf_append, if_neg h, List.idxOf_cons_self]
  simp
end Go.Proofs.YtflpdjmdkdgijaaGreatDoor.Plain
