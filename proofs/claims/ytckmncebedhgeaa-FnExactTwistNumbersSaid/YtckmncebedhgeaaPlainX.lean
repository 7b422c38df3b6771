/-
  Plain lemmas on places of chords, and which chords cross. No program in sight.
-/
import Derived.Test.YtckmncebedhgeaaPlainB
namespace Go.Proofs.Ytckmncebedhgeaa.Plain
open Go.RowKit Go.Maps Go.Proofs.YtckmncebedhgeaaW.PrintWords Go.Proofs.YtckmncebedhgeaaW.PrintLast Go.Proofs.YtckmncebedhgeaaW.PrintMore
set_option linter.unusedVariables false
set_option linter.unusedSimpArgs false
/-- What stands at the places of a number that stands twice; and nowhere else. -/
theorem place_iff {l : List Int} {x : Int} (h : l.count x = 2) (i : Nat) : l[i]? = some x ↔ i = fstP l x ∨ i = sndP l x := by
  obtain ⟨A, B, C, rfl, hA, hB, hC⟩ := split_two h
  obtain ⟨h1, h2⟩ := sndP_split (C := C) hA hB
  rw [h1, h2]
  constructor
  · intro hi
    rcases Nat.lt_trichotomy i A.length with h3 | h3 | h3
    · rw [List.getElem?_append_left h3] at hi
      exact absurd (List.mem_of_getElem? hi) hA
    · exact .inl h3
    · rw [List.getElem?_append_right (by omega)] at hi
      obtain ⟨j, rfl⟩ : ∃ j, i = A.length + 1 + j := ⟨i - A.length - 1, by omega⟩
      have e : A.length + 1 + j - A.length = j + 1 := by omega
      rw [e, List.getElem?_cons_succ] at hi
      rcases Nat.lt_trichotomy j B.length with h4 | h4 | h4
      · rw [List.getElem?_append_left h4] at hi
        exact absurd (List.mem_of_getElem? hi) hB
      · right; omega
      · rw [List.getElem?_append_right (by omega)] at hi
        obtain ⟨m, rfl⟩ : ∃ m, j = B.length + 1 + m := ⟨j - B.length - 1, by omega⟩
        have e : B.length + 1 + m - B.length = m + 1 := by omega
        rw [e, List.getElem?_cons_succ] at hi
        exact absurd (List.mem_of_getElem? hi) hC
  · rintro (rfl | rfl)
    · simp
    · rw [List.getElem?_append_right (by omega)]
      have e : A.length + 1 + B.length - A.length = B.length + 1 := by omega
      rw [e, List.getElem?_cons_succ, List.getElem?_append_right (by omega)]
      simp
theorem place_fst {l : List Int} {x : Int} (h : l.count x = 2) : l[fstP l x]? = some x := (place_iff h _).2 (.inl rfl)
theorem place_snd {l : List Int} {x : Int} (h : l.count x = 2) : l[sndP l x]? = some x := (place_iff h _).2 (.inr rfl)
/-- The places of two numbers are four. -/
theorem place_ne {l : List Int} {x y : Int} (hx : l.count x = 2) (hy : l.count y = 2) (hxy : x ≠ y) :
    fstP l x ≠ fstP l y ∧ fstP l x ≠ sndP l y ∧ sndP l x ≠ fstP l y ∧ sndP l x ≠ sndP l y := by
  have h1 := place_fst hx
  have h2 := place_snd hx
  have h3 := place_fst hy
  have h4 := place_snd hy
  refine ⟨fun e => ?_, fun e => ?_, fun e => ?_, fun e => ?_⟩
  · rw [e, h3] at h1; exact hxy (Option.some.inj h1).symm
  · rw [e, h4] at h1; exact hxy (Option.some.inj h1).symm
  · rw [e, h3] at h2; exact hxy (Option.some.inj h2).symm
  · rw [e, h4] at h2; exact hxy (Option.some.inj h2).symm
/-- Do two chords cross? -/
def crossB (w : List Int) (i k : Int) : Bool := !decide (i = k) && (decide (fstP w i < fstP w k ∧ fstP w k < sndP w i) != decide (fstP w i < sndP w k ∧ sndP w k < sndP w i))
theorem crossB_iff {w : List Int} {i k : Int} (hi : w.count i = 2) (hk : w.count k = 2) : crossB w i k = true ↔ i ≠ k ∧ ((fstP w i < fstP w k ∧ fstP w k < sndP w i ∧ sndP w i < sndP w k) ∨ (fstP w k < fstP w i ∧ fstP w i < sndP w k ∧ sndP w k < sndP w i)) := by
  unfold crossB
  by_cases e : i = k
  · simp [e]
  · have h1 := place_ne hi hk e
    have h2 := sndP_lt hi
    have h3 := sndP_lt hk
    have h4 : (decide (fstP w i < fstP w k ∧ fstP w k < sndP w i) != decide (fstP w i < sndP w k ∧ sndP w k < sndP w i)) = true ↔ ((fstP w i < fstP w k ∧ fstP w k < sndP w i ∧ sndP w i < sndP w k) ∨ (fstP w k < fstP w i ∧ fstP w i < sndP w k ∧ sndP w k < sndP w i)) := by
      rw [bne_iff_ne, ne_eq, decide_eq_decide]
      omega
    simp only [Bool.and_eq_true, Bool.not_eq_true', decide_eq_false_iff_not, h4, e, not_false_eq_true, true_and, ne_eq]
theorem crossB_comm {w : List Int} {i k : Int} (hi : w.count i = 2) (hk : w.count k = 2) : crossB w i k = crossB w k i := by
  rw [Bool.eq_iff_iff, crossB_iff hi hk, crossB_iff hk hi]
  constructor
  · rintro ⟨h1, h2⟩; exact ⟨Ne.symm h1, h2.symm⟩
  · rintro ⟨h1, h2⟩; exact ⟨Ne.symm h1, h2.symm⟩
/-- The row of a chord: for each chord, does it cross? -/
def crossRow (w : List Int) (n : Nat) (i : Int) : List Int := (List.range n).map fun (k : Nat) => if crossB w i k = true then 1 else 0
def rowsL (w : List Int) : List (List Int) := (List.range (w.length / 2)).map fun (i : Nat) => crossRow w (w.length / 2) i
theorem crossRow_length (w : List Int) (n : Nat) (i : Int) : (crossRow w n i).length = n := by simp [crossRow]
theorem rowsL_length (w : List Int) : (rowsL w).length = w.length / 2 := by simp [rowsL]
/-- In the order of the first places. -/
theorem firsts_order (l : List Int) : ∀ x y : Int, x ∈ l → y ∈ l → ((firsts l).idxOf x < (firsts l).idxOf y ↔ l.idxOf x < l.idxOf y) := by
  induction l using snoc_ind with
  | h0 => intro x y hx; simp at hx
  | h1 l z ih =>
    intro x y hx hy
    rw [firsts_snoc]
    have hm := mem_firsts l
    by_cases hz : z ∈ l
    · rw [if_pos (by simpa using (hm z).2 hz)]
      have hx' : x ∈ l := by
        rcases List.mem_append.1 hx with h | h
        · exact h
        · rw [List.mem_singleton.1 h]; exact hz
      have hy' : y ∈ l := by
        rcases List.mem_append.1 hy with h | h
        · exact h
        · rw [List.mem_singleton.1 h]; exact hz
      rw [List.idxOf_append, List.idxOf_append, if_pos hx', if_pos hy']
      exact ih x y hx' hy'
    · have hz' : z ∉ firsts l := fun h => hz ((hm z).1 h)
      rw [if_neg (by simpa using hz')]
      rw [List.idxOf_append, List.idxOf_append, List.idxOf_append, List.idxOf_append]
      by_cases hx' : x ∈ l
      · have h1 : (firsts l).idxOf x < (firsts l).length := List.idxOf_lt_length_iff.2 ((hm x).2 hx')
        have h2 : l.idxOf x < l.length := List.idxOf_lt_length_iff.2 hx'
        rw [if_pos hx', if_pos ((hm x).2 hx')]
        by_cases hy' : y ∈ l
        · rw [if_pos hy', if_pos ((hm y).2 hy')]; exact ih x y hx' hy'
        · rw [if_neg hy', if_neg (fun h => hy' ((hm y).1 h))]
          omega
      · have ex : x = z := by
          rcases List.mem_append.1 hx with h | h
          · exact absurd h hx'
          · exact List.mem_singleton.1 h
        rw [if_neg hx', if_neg (fun h => hx' ((hm x).1 h))]
        by_cases hy' : y ∈ l
        · have h1 : (firsts l).idxOf y < (firsts l).length := List.idxOf_lt_length_iff.2 ((hm y).2 hy')
          have h2 : l.idxOf y < l.length := List.idxOf_lt_length_iff.2 hy'
          rw [if_pos hy', if_pos ((hm y).2 hy')]
          omega
        · have ey : y = z := by
            rcases List.mem_append.1 hy with h | h
            · exact absurd h hy'
            · exact List.mem_singleton.1 h
          rw [if_neg hy', if_neg (fun h => hy' ((hm y).1 h))]
          subst ex; subst ey
          simp
/-- The first places of a word's chords ascend. -/
theorem word_fst_lt {w : List Int} (h : isWordB w = true) {i k : Int} (hi : w.count i = 2) (hk : w.count k = 2) : i < k ↔ fstP w i < fstP w k := by
  have mi : i ∈ w := List.count_pos_iff.1 (by omega)
  have mk : k ∈ w := List.count_pos_iff.1 (by omega)
  have h1 := firsts_order w i k mi mk
  have h2 := word_idx h mi
  have h3 := word_idx h mk
  unfold fstP
  rw [← h1]
  omega
end Go.Proofs.Ytckmncebedhgeaa.Plain
