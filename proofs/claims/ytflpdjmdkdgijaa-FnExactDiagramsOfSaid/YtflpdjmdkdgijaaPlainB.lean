/-
  Plain lemmas on words: what a word's numbers are, and where they stand. No program in sight.
-/
import Derived.Test.YtflpdjmdkdgijaaPlainA
namespace Go.Proofs.Ytflpdjmdkdgijaa.Plain
open Go.RowKit Go.Maps Go.Proofs.YtflpdjmdkdgijaaW.PrintWords Go.Proofs.YtflpdjmdkdgijaaW.PrintLast Go.Proofs.YtflpdjmdkdgijaaW.PrintMore
set_option linter.unusedVariables false
set_option linter.unusedSimpArgs false
theorem firsts_nodup (l : List Int) : (firsts l).Nodup := by
  induction l using snoc_ind with
  | h0 => simp [firsts]
  | h1 l y ih =>
    rw [firsts_snoc]
    by_cases h : (firsts l).contains y = true
    · rw [if_pos h]; exact ih
    · rw [if_neg h]
      rw [List.nodup_append]
      refine ⟨ih, by simp, fun a ha b hb => ?_⟩
      simp at hb
      subst hb
      rintro rfl
      exact h (by simpa using ha)
theorem idxOf_at {m : List Int} (hm : m.Nodup) {k : Nat} (hk : k < m.length) : m.idxOf m[k] = k := by
  have h1 : m.idxOf m[k] < m.length := List.idxOf_lt_length_iff.2 (List.getElem_mem hk)
  have h2 : m[m.idxOf m[k]] = m[k] := List.getElem_idxOf h1
  rcases Nat.lt_trichotomy (m.idxOf m[k]) k with h3 | h3 | h3
  · exact absurd h2 (List.pairwise_iff_getElem.1 hm _ _ h1 hk h3)
  · exact h3
  · exact absurd h2.symm (List.pairwise_iff_getElem.1 hm _ _ hk h1 h3)
/-- Is a list a word? -/
def isWordB (l : List Int) : Bool := decide (l.length ≤ 12) && (twiceB l && decide (normalL l = l))
theorem word_length {l : List Int} (h : isWordB l = true) : l.length ≤ 12 := by
  simp only [isWordB, Bool.and_eq_true, decide_eq_true_eq] at h; exact h.1
theorem word_twice {l : List Int} (h : isWordB l = true) : twiceB l = true := by
  simp only [isWordB, Bool.and_eq_true, decide_eq_true_eq] at h; exact h.2.1
theorem word_normal {l : List Int} (h : isWordB l = true) : normalL l = l := by
  simp only [isWordB, Bool.and_eq_true, decide_eq_true_eq] at h; exact h.2.2
theorem count_of_twice {l : List Int} (h : twiceB l = true) {x : Int} (hx : x ∈ l) : l.count x = 2 := by
  have := List.all_eq_true.1 h x hx
  simpa using this
theorem sum_const (d : List Int) (c : Nat) : (d.map fun _ => c).sum = c * d.length := by
  induction d with
  | nil => rfl
  | cons a d ih => rw [List.map_cons, List.sum_cons, ih, List.length_cons, Nat.mul_succ]; omega
/-- A list's length is the sum of how often its different numbers stand in it. -/
theorem sum_if (d : List Int) (hd : d.Nodup) (y : Int) : (d.map fun x => if y = x then 1 else 0).sum = if y ∈ d then 1 else 0 := by
  induction d with
  | nil => simp
  | cons a d ih =>
    rw [List.nodup_cons] at hd
    rw [List.map_cons, List.sum_cons, ih hd.2]
    by_cases e : y = a
    · subst e
      simp [hd.1]
    · simp [e]
theorem sum_add (d : List Int) (f g : Int → Nat) : (d.map fun x => f x + g x).sum = (d.map f).sum + (d.map g).sum := by
  induction d with
  | nil => rfl
  | cons a d ih => simp only [List.map_cons, List.sum_cons, ih]; omega
theorem length_counts (d : List Int) (hd : d.Nodup) : ∀ l : List Int, (∀ x ∈ l, x ∈ d) → l.length = (d.map fun x => l.count x).sum
  | [], _ => by simpa using (sum_const d 0).symm
  | y :: l, h => by
    have ih := length_counts d hd l (fun x hx => h x (List.mem_cons_of_mem _ hx))
    have h1 := sum_if d hd y
    rw [if_pos (h y List.mem_cons_self)] at h1
    have h2 : (d.map fun x => (y :: l).count x) = d.map fun x => l.count x + (if y = x then 1 else 0) := by
      apply List.map_congr_left
      intro x _
      rw [List.count_cons]
      by_cases e : y = x <;> simp [e]
    rw [h2, sum_add, ← ih, h1]
    rfl
theorem twice_length {l : List Int} (h : twiceB l = true) : l.length = 2 * (firsts l).length := by
  have h1 := length_counts (firsts l) (firsts_nodup l) l (fun x hx => (mem_firsts l x).2 hx)
  have h2 : ((firsts l).map fun x => l.count x) = (firsts l).map fun _ => 2 := by
    apply List.map_congr_left
    intro x hx
    exact count_of_twice h ((mem_firsts l x).1 hx)
  rw [h2] at h1
  rw [h1, sum_const]
theorem word_idx {l : List Int} (h : isWordB l = true) {x : Int} (hx : x ∈ l) : ((firsts l).idxOf x : Int) = x := by
  have hn := word_normal h
  obtain ⟨k, hk, rfl⟩ := List.getElem_of_mem hx
  have h1 : (normalL l)[k]'(by rw [normalL_length]; exact hk) = l[k] := by simp only [hn]
  unfold normalL at h1
  simpa using h1
theorem word_firsts {l : List Int} (h : isWordB l = true) {k : Nat} (hk : k < (firsts l).length) : (firsts l)[k] = (k : Int) := by
  have h1 := word_idx h ((mem_firsts l _).1 (List.getElem_mem hk))
  rw [idxOf_at (firsts_nodup l) hk] at h1
  exact h1.symm
theorem word_even {l : List Int} (h : isWordB l = true) : l.length = 2 * (firsts l).length := twice_length (word_twice h)
/-- A number of a word is from 0 on and less than the number of chords. -/
theorem word_mem {l : List Int} (h : isWordB l = true) {x : Int} (hx : x ∈ l) : 0 ≤ x ∧ x < (l.length / 2 : Nat) := by
  have h1 := word_idx h hx
  have h2 : (firsts l).idxOf x < (firsts l).length := List.idxOf_lt_length_iff.2 ((mem_firsts l x).2 hx)
  have h3 := word_even h
  omega
/-- Each number less than the number of chords stands in a word twice. -/
theorem word_count {l : List Int} (h : isWordB l = true) {x : Int} (h0 : 0 ≤ x) (h1 : x < (l.length / 2 : Nat)) : l.count x = 2 := by
  have h3 := word_even h
  have hk : x.toNat < (firsts l).length := by omega
  have h2 := word_firsts h hk
  have hx : x ∈ l := by
    have := (mem_firsts l _).1 (List.getElem_mem hk)
    rw [h2] at this
    rwa [Int.toNat_of_nonneg h0] at this
  exact count_of_twice (word_twice h) hx
theorem word_wf {l : List Int} (h : isWordB l = true) : wfB l = true := by
  refine List.all_eq_true.2 fun x hx => ?_
  have h1 := word_mem h hx
  have h2 := word_length h
  exact WalkArith.wf_i64 (by omega)
/-- What stands twice: the list falls into three parts. -/
theorem split_one {l : List Int} {x : Int} (h : x ∈ l) : ∃ A R, l = A ++ x :: R ∧ x ∉ A := by
  induction l with
  | nil => simp at h
  | cons y l ih =>
    by_cases e : y = x
    · exact ⟨[], l, by simp [e], by simp⟩
    · obtain ⟨A, R, h1, h2⟩ := ih (by simpa [Ne.symm e] using h)
      exact ⟨y :: A, R, by simp [h1], by simp [Ne.symm e, h2]⟩
theorem split_two {l : List Int} {x : Int} (h : l.count x = 2) : ∃ A B C, l = A ++ x :: (B ++ x :: C) ∧ x ∉ A ∧ x ∉ B ∧ x ∉ C := by
  obtain ⟨A, R, rfl, hA⟩ := split_one (l := l) (x := x) (List.count_pos_iff.1 (by omega))
  rw [List.count_append, List.count_eq_zero.2 hA, List.count_cons_self] at h
  obtain ⟨B, C, rfl, hB⟩ := split_one (l := R) (x := x) (List.count_pos_iff.1 (by omega))
  rw [List.count_append, List.count_eq_zero.2 hB, List.count_cons_self] at h
  exact ⟨A, B, C, rfl, hA, hB, List.count_eq_zero.1 (by omega)⟩
theorem idxOf_split {A R : List Int} {x : Int} (h : x ∉ A) : (A ++ x :: R).idxOf x = A.length := by
  rw [List.idxOf_append, if_neg h, List.idxOf_cons_self]
  simp
/-- The first place of a number, and the second. -/
def fstP (l : List Int) (x : Int) : Nat := l.idxOf x
def sndP (l : List Int) (x : Int) : Nat := fstP l x + 1 + (l.drop (fstP l x + 1)).idxOf x
theorem sndP_split {A B C : List Int} {x : Int} (hA : x ∉ A) (hB : x ∉ B) : fstP (A ++ x :: (B ++ x :: C)) x = A.length ∧ sndP (A ++ x :: (B ++ x :: C)) x = A.length + 1 + B.length := by
  have h1 : fstP (A ++ x :: (B ++ x :: C)) x = A.length := idxOf_split hA
  refine ⟨h1, ?_⟩
  unfold sndP
  rw [h1]
  have h2 : (A ++ x :: (B ++ x :: C)).drop (A.length + 1) = B ++ x :: C := by
    rw [List.drop_append]
    simp
  rw [h2, idxOf_split hB]
theorem sndP_lt {l : List Int} {x : Int} (h : l.count x = 2) : fstP l x < sndP l x ∧ sndP l x < l.length := by
  obtain ⟨A, B, C, rfl, hA, hB, hC⟩ := split_two h
  obtain ⟨h1, h2⟩ := sndP_split (C := C) hA hB
  rw [h1, h2]
  simp
  omega
/-- The last place of a number, as it is found by going over the list. -/
def lastP (l : List Int) (x : Int) : Int := if x ∈ l then (l.length : Int) - 1 - (l.reverse.idxOf x : Nat) else -1
theorem lastP_snoc (l : List Int) (x y : Int) : lastP (l ++ [y]) x = if y = x then (l.length : Int) else lastP l x := by
  unfold lastP
  by_cases e : y = x
  · subst e
    simp
  · have e2 : (y == x) = false := by simp [e]
    have hm : (x ∈ l ++ [y]) ↔ x ∈ l := by simp [Ne.symm e]
    rw [if_neg e, List.reverse_append, List.reverse_singleton, List.singleton_append, List.idxOf_cons, e2]
    by_cases h : x ∈ l
    · rw [if_pos h, if_pos (hm.2 h)]
      simp
      omega
    · rw [if_neg h, if_neg (fun h' => h (hm.1 h'))]
theorem lastP_two {l : List Int} {x : Int} (h : l.count x = 2) : lastP l x = (sndP l x : Nat) := by
  obtain ⟨A, B, C, rfl, hA, hB, hC⟩ := split_two h
  rw [(sndP_split (C := C) hA hB).2]
  unfold lastP
  have h1 : (A ++ x :: (B ++ x :: C)).reverse = C.reverse ++ x :: (B.reverse ++ x :: A.reverse) := by simp
  rw [if_pos (by simp), h1, idxOf_split (by simpa using hC)]
  simp
  omega
end Go.Proofs.Ytflpdjmdkdgijaa.Plain
