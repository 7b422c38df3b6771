/-
  Plain lemmas on rows of rows. No program in sight.
-/
import Derived.Test.YtflpdjmdkdgijaaPlainA
namespace Go.Proofs.Ytflpdjmdkdgijaa.Plain
open Go.RowKit Go.Maps Go.Proofs.YtflpdjmdkdgijaaW.PrintWords Go.Proofs.YtflpdjmdkdgijaaW.PrintLast Go.Proofs.YtflpdjmdkdgijaaW.PrintMore
set_option linter.unusedVariables false
set_option linter.unusedSimpArgs false
/-- An element of a row of rows: its cell, and what it reads as. -/
theorem rows_at {α : Type} {d : Kd α} {e : Nat} {w : World} {A : Option Addr} {n : Nat} {xs : List (List α)} (h : (Kd.slice e d).C w A n xs) (k : Nat) (hk : k < xs.length) :
    ∃ ad A' c', A = some ad ∧ w.cell? (ad.add k) = some (.slice A' xs[k].length c') ∧ xs[k].length ≤ c' ∧ d.C w A' xs[k].length xs[k] := by
  obtain ⟨ad, c, eA, hl, hK, hc⟩ := Kd.C_get h [] (k : Int) (by omega) (by have := h.1; omega)
  have e1 : xs.getD (k : Int).toNat [] = xs[k] := by
    rw [Int.toNat_natCast, List.getD_eq_getElem?_getD, List.getElem?_eq_getElem hk]
    rfl
  rw [e1] at hK
  obtain ⟨A', c', rfl, hle, hC⟩ := hK
  refine ⟨ad, A', c', eA, ?_, hle, hC⟩
  have h2 := hc 0 _ rfl
  have h3 : (k : Int).toNat * (Kd.slice e d).sz + 0 = k := by
    show (k : Int).toNat * 1 + 0 = k
    omega
  rw [h3] at h2
  exact h2
theorem flatten_take {α : Type} {xs : List (List α)} {k : Nat} (hk : k < xs.length) : (xs.take (k + 1)).flatten = (xs.take k).flatten ++ xs[k] := by
  rw [List.take_succ_eq_append_getElem hk, List.flatten_append]
  simp
theorem flatten_take_le {α : Type} (xs : List (List α)) (k : Nat) : (xs.take k).flatten.length ≤ xs.flatten.length := by
  have h := congrArg (fun l => l.flatten.length) (List.take_append_drop k xs)
  simp only [List.flatten_append, List.length_append] at h
  omega
/-- How long the first k rows are together. -/
def flen (xs : List (List Int)) (k : Nat) : Nat := (xs.take k).flatten.length
theorem flen_zero (xs : List (List Int)) : flen xs 0 = 0 := by simp [flen]
theorem flen_succ {xs : List (List Int)} {k : Nat} (hk : k < xs.length) : flen xs (k + 1) = flen xs k + xs[k].length := by
  unfold flen; rw [flatten_take hk, List.length_append]
theorem flen_le (xs : List (List Int)) (k : Nat) : flen xs k ≤ xs.flatten.length := flatten_take_le xs k
theorem flen_all (xs : List (List Int)) : flen xs xs.length = xs.flatten.length := by unfold flen; rw [List.take_length]
end Go.Proofs.Ytflpdjmdkdgijaa.Plain
