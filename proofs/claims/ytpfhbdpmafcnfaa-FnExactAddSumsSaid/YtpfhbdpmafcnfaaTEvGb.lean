/-
  Plain laws of sums whose words are renamed: what the program gathers is what the reference puts, term by term; what a sum is.
-/
import Derived.Test.YtpfhbdpmafcnfaaTEvU
import Derived.Test.YtpfhbdpmafcnfaaTEvGa
import Derived.Test.YtpfhbdpmafcnfaaTGgD
namespace Go.Proofs.Ytpfhbdpmafcnfaa.Pure
open Go.RowKit Go.Proofs.Ytpfhbdpmafcnfaa.G Go.Proofs.Ytpfhbdpmafcnfaa.Plain Go.Proofs.YtpfhbdpmafcnfaaW.PrintWords Go.Proofs.YtpfhbdpmafcnfaaW.PrintLast
set_option linter.unusedVariables false
set_option linter.unusedSimpArgs false
theorem okFrom_at (p : Int) (ys : List S89) : ∀ (d k : Nat), okFrom p ys d k = true → ∀ i, k ≤ i → i < k + d → stepB p ys i = true
  | 0, k, _, i, h1, h2 => by omega
  | d + 1, k, h, i, h1, h2 => by
    unfold okFrom at h
    rw [Bool.and_eq_true] at h
    rcases Nat.eq_or_lt_of_le h1 with e | e
    · subst e; exact h.1
    · exact okFrom_at p ys d (k + 1) h.2 i e (by omega)
theorem sum_facts {p : Int} {ys : List S89} (h : sumB p ys = true) : primeB p = true ∧ ys.length ≤ 200 ∧ (∀ x ∈ ys, isWordB x.f0 = true ∧ 1 ≤ x.f1 ∧ x.f1 < p) ∧ SortedW ys := by
  unfold sumB at h
  rw [Bool.and_eq_true, Bool.and_eq_true, decide_eq_true_eq] at h
  obtain ⟨h1, h2, h3⟩ := h
  have hp := prime_pos h1
  have hw : wrap64 (p - 1) = p - 1 := wrap_of (by omega) (by omega)
  have hs := okFrom_at p ys _ _ h3
  refine ⟨h1, h2, fun x hx => ?_, ?_⟩
  · obtain ⟨i, hi, rfl⟩ := List.getElem_of_mem hx
    have h4 := hs i (by omega) (by omega)
    unfold stepB at h4
    rw [rdJ hi, Bool.and_eq_true, Bool.and_eq_true, decide_eq_true_eq, hw] at h4
    exact ⟨h4.1, h4.2.1.1, by have := h4.2.1.2; omega⟩
  · have step : ∀ i (hi : i + 1 < ys.length), befW (ys[i]'(by omega)).f0 ys[i + 1].f0 = true := by
      intro i hi
      have h4 := hs (i + 1) (by omega) (by omega)
      unfold stepB at h4
      rw [rdJ hi, Bool.and_eq_true, Bool.and_eq_true, show (((i + 1 : Nat) : Int) - 1) = (i : Int) by omega, rdJ (show i < ys.length by omega)] at h4
      have h5 := h4.2.2
      rw [Bool.or_eq_true] at h5
      rcases h5 with h5 | h5
      · simp at h5
      · exact h5
    unfold SortedW
    rw [List.pairwise_iff_getElem]
    intro i j hi hj hij
    have key : ∀ d (hd : i + d + 1 < ys.length), befW ys[i].f0 ys[i + d + 1].f0 = true := by
      intro d
      induction d with
      | zero => intro hd; exact step i hd
      | succ d ih => intro hd; exact befW_trans (ih (by omega)) (step (i + d + 1) hd)
    have e : j = i + (j - i - 1) + 1 := by omega
    have := key (j - i - 1) (by omega)
    simpa [← e] using this
structure Keeps (p : Int) (m : Nat) (L : List S89) : Prop where
  sorted : SortedW L
  words : ∀ x ∈ L, okW x.f0
  vals : ∀ x ∈ L, 0 ≤ x.f1 ∧ x.f1 < p
  len : L.length ≤ m
theorem Keeps.nil (p : Int) : Keeps p 0 [] := ⟨List.Pairwise.nil, fun x h => (List.not_mem_nil h).elim, fun x h => (List.not_mem_nil h).elim, Nat.le_refl _⟩
theorem Keeps.put {p : Int} {m : Nat} {L : List S89} (h : Keeps p m L) (hp : 0 < p) {l : List Int} (hl : okW l) (v : Int) : Keeps p (m + 1) (putZ p L l v) :=
  ⟨putZ_sorted p l v h.sorted, putZ_words h.sorted h.words hl, putZ_vals hp h.sorted h.vals, by have := putZ_length p l v L; have := h.len; omega⟩
end Go.Proofs.Ytpfhbdpmafcnfaa.Pure
