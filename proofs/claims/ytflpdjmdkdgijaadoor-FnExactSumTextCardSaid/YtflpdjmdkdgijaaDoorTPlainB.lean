/-
  Plain lemmas on words: what a word's numbers are, and where they stand. No program in sight.
-/
import Derived.Test.YtflpdjmdkdgijaaDoorTPlainA
namespace Go.Proofs.YtflpdjmdkdgijaaDoor.Plain
open Go.RowKit Go.Maps Go.Proofs.YtflpdjmdkdgijaaDoorW.PrintWords Go.Proofs.YtflpdjmdkdgijaaDoorW.PrintLast Go.Proofs.YtflpdjmdkdgijaaDoorW.PrintMore
set_option linter.unusedVariables false
set_option linter.unusedSimpArgs false
theorem firsts_nodup (l : List Int) : (firsts l).Nodup := by
  induction l using snoc_ind with
  | h0 => simp [firsts]
  | h1 l y ih =>
    rw [firsts_snoc]
    by_cases h : (firsts l).contains y = true
    · rw [if_pos h]; exact ih
    · rw [if_neg h]
      rw [List.nodup_append]
      refine ⟨ih, by simp, fun a ha b hb => ?_⟩
      simp at hb
      subst hb
      rintro rfl
      exact h (by simpa using ha)
theorem idxOf_at {m : List Int} (hm : m.Nodup) {k : Nat} (hk : k < m.length) : m.idxOf m[k] = k := by
  have h1 : m.idxOf m[k] < m.length := List.idxOf_lt_length_iff.2 (List.getElem_mem hk)
  have h2 : m[m.idxOf m[k]] = m[k] := List.getElem_idxOf h1
  rcases Nat.lt_trichotomy (m.idxOf m[k]) k with h3 | h3 | h3
  · exact absurd h2 (List.pairwise_iff_getElem.1 hm _ _ h1 hk h3)
  · exact h3
  · exact absurd h2.symm (List.pairwise_iff_getElem.1 hm _ _ hk h1 h3)
/-- Is a list a word? -/
def isWordB (l : List Int) : Bool := decide (l.length ≤ 12) && (twiceB l && decide (normalL l = l))
theorem word_length {l : List Int} (h : isWordB l = true) : l.length ≤ 12 := by
  simp only [isWordB, Bool.and_eq_true, decide_eq_true_eq] at h; exact h.1
theorem idxOf_split {A R : List Int} {x : Int} (h : x ∉ A) : (A ++ x :: R).idxOf x = A.length := by
  rw [List.idxOf_append, if_neg h, List.idxOf_cons_self]
  simp
end Go.Proofs.YtflpdjmdkdgijaaDoor.Plain
