/-
  Plain lemmas on numbers of pairs of chords, and nested chords. No program in sight.
-/
import Derived.Test.YtckmncebedhgeaaPlainF
import Derived.Test.YtckmncebedhgeaaPlainX
namespace Go.Proofs.Ytckmncebedhgeaa.Plain
open Go.RowKit Go.Maps Go.Proofs.YtckmncebedhgeaaW.PrintWords Go.Proofs.YtckmncebedhgeaaW.PrintLast Go.Proofs.YtckmncebedhgeaaW.PrintMore
set_option linter.unusedVariables false
set_option linter.unusedSimpArgs false
/-- How many of d numbers from k on pass a test behind i. -/
def upF (p : Int → Int → Bool) (i : Nat) : Nat → Nat → Nat
  | 0, _ => 0
  | d + 1, k => (if p i k = true then 1 else 0) + upF p i d (k + 1)
def upOut (p : Int → Int → Bool) (n : Nat) : Nat → Nat → Nat
  | 0, _ => 0
  | d + 1, i => upF p i (n - (i + 1)) (i + 1) + upOut p n d (i + 1)
theorem upF_snoc (p : Int → Int → Bool) (i : Nat) : ∀ d k : Nat, upF p i (d + 1) k = upF p i d k + (if p i ((k + d : Nat) : Int) = true then 1 else 0)
  | 0, k => by simp [upF]
  | d + 1, k => by
    rw [upF, upF_snoc p i d (k + 1), upF]
    have e : k + 1 + d = k + (d + 1) := by omega
    rw [e]; omega
theorem outF_snoc (p : Int → Int → Bool) : ∀ d i : Nat, outF p (d + 1) i = outF p d i + inF p (i + d) (i + d) 0
  | 0, i => by simp [outF]
  | d + 1, i => by
    rw [outF, outF_snoc p d (i + 1), outF]
    have e : i + 1 + d = i + (d + 1) := by omega
    rw [e]; omega
theorem upOut_snoc (p : Int → Int → Bool) (n : Nat) : ∀ d i : Nat, upOut p n (d + 1) i = upOut p n d i + upF p (i + d) (n - (i + d + 1)) (i + d + 1)
  | 0, i => by simp [upOut]
  | d + 1, i => by
    rw [upOut, upOut_snoc p n d (i + 1), upOut]
    have e : i + 1 + d = i + (d + 1) := by omega
    rw [e]; omega
theorem upOut_more (p : Int → Int → Bool) (n : Nat) : ∀ d i : Nat, i + d ≤ n → upOut p (n + 1) d i = upOut p n d i + inF p n d i
  | 0, i, _ => by simp [upOut, inF]
  | d + 1, i, h => by
    rw [upOut, upOut_more p n d (i + 1) (by omega), upOut, inF]
    have e : n + 1 - (i + 1) = (n - (i + 1)) + 1 := by omega
    rw [e, upF_snoc]
    have e2 : i + 1 + (n - (i + 1)) = n := by omega
    rw [e2]; omega
/-- Each pair once, whichever of the two is told first. -/
theorem up_out (p : Int → Int → Bool) : ∀ n : Nat, upOut p n n 0 = outF p n 0
  | 0 => rfl
  | n + 1 => by
    rw [upOut_snoc, upOut_more p n n 0 (by omega), up_out p n, outF_snoc]
    have e : n + 1 - (0 + n + 1) = 0 := by omega
    rw [e]
    simp [upF]
/-- Nested: the second chord stands within the first. -/
def nestB (w : List Int) (i k : Int) : Bool := !crossB w i k && decide (sndP w k < sndP w i)
theorem nest_iff {w : List Int} (h : isWordB w = true) {i k : Int} (hi : w.count i = 2) (hk : w.count k = 2) (hik : i < k) (hc : crossB w i k = false) : sndP w k < sndP w i ↔ fstP w k < sndP w i := by
  have h1 := (word_fst_lt h hi hk).1 hik
  have h2 := place_ne hi hk (by omega)
  have h3 := sndP_lt hi
  have h4 := sndP_lt hk
  have h5 : ¬ (crossB w i k = true) := by simp [hc]
  rw [crossB_iff hi hk] at h5
  constructor
  · intro h6; omega
  · intro h6
    refine Classical.byContradiction fun h7 => h5 ⟨by omega, .inl ⟨h1, h6, by omega⟩⟩
end Go.Proofs.Ytckmncebedhgeaa.Plain
