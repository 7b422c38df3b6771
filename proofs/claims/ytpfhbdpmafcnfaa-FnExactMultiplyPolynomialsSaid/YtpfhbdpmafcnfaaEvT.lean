/-
  Plain laws of polynomials made: noughts struck off the end, and what is told of the list. No condition but sizes.
-/
import Derived.Test.YtpfhbdpmafcnfaaEvF
import Derived.Test.YtpfhbdpmafcnfaaG68
import Derived.Test.YtpfhbdpmafcnfaaG64
import Derived.Test.YtpfhbdpmafcnfaaG109
import Derived.Test.YtpfhbdpmafcnfaaG67
namespace Go.Proofs.Ytpfhbdpmafcnfaa.Pure
open Go.RowKit Go.Proofs.Ytpfhbdpmafcnfaa.G Go.Proofs.YtpfhbdpmafcnfaaW.PrintWords Go.Proofs.YtpfhbdpmafcnfaaW.PrintLast
set_option linter.unusedVariables false

/-- The first n elements without the noughts at their end. -/
def trimN (l : List Int) : Nat → List Int
  | 0 => []
  | n + 1 => if rd l n = 0 then trimN l n else l.take (n + 1)
def trimL (l : List Int) : List Int := trimN l l.length
theorem trimN_le (l : List Int) : ∀ n, (trimN l n).length ≤ n
  | 0 => by simp [trimN]
  | n + 1 => by
    unfold trimN
    by_cases e : rd l n = 0
    · rw [if_pos e]; have := trimN_le l n; omega
    · rw [if_neg e, List.length_take]; omega
theorem trim_loop_spec (l : List Int) (hl : l.length ≤ 17592186044415) : ∀ n, n ≤ l.length → Ev (fun q => spec_l05Trim.l0 q l n) (trimN l n)
  | 0, h => by
    have o : spec_l01Own.f (l.take ((0 : Nat) : Int).toNat) = some [] := by unfold spec_l01Own.f; simp
    refine Ev.step (fun q => by rw [spec_l05Trim.l0]) ?_
    refine Ev.ite_neg (by omega) (Ev.ite_pos (by omega) (Ev.ite_pos (by omega) ?_))
    exact Ev.bind (Ev.const o) (Ev.now _)
  | n + 1, h => by
    have hlt : n < l.length := h
    have e1 : wrap64 (((n + 1 : Nat) : Int) - 1) = (n : Int) := by rw [wrap_of (by omega) (by omega)]; omega
    refine Ev.step (fun q => by rw [spec_l05Trim.l0]) ?_
    rw [e1]
    refine Ev.ite_pos (by omega) (Ev.ite_pos (by omega) (Ev.ite_pos (by omega) ?_))
    unfold trimN
    by_cases e : rd l n = 0
    · rw [if_pos e]
      exact Ev.ite_pos e (trim_loop_spec l hl n (by omega))
    · rw [if_neg e]
      have o : spec_l01Own.f (l.take (((n + 1 : Nat) : Int)).toNat) = some (l.take (n + 1)) := by
        rw [Int.toNat_natCast]
        unfold spec_l01Own.f
        rw [Option.bind_some, if_pos (by simp; omega), List.nil_append]
      refine Ev.ite_neg e (Ev.ite_pos (by omega) (Ev.ite_pos (by omega) ?_))
      exact Ev.bind (Ev.const o) (Ev.now _)
theorem ev_spec_l05Trim (l : List Int) (hl : l.length ≤ 17592186044415) : Ev (fun q => spec_l05Trim.f q l) (trimL l) := by
  unfold spec_l05Trim.f
  exact trim_loop_spec l hl l.length (Nat.le_refl _)
theorem trim_loop_impl (l : List Int) (hl : l.length ≤ 17592186044415) : ∀ n, n ≤ l.length → Ev (fun q => impl_trimmed.l0 q (l.take n)) (trimN l n)
  | 0, h => by
    refine Ev.step (fun q => by rw [impl_trimmed.l0]) ?_
    exact Ev.ite_neg (by simp) (Ev.now _)
  | n + 1, h => by
    have hlen : (l.take (n + 1)).length = n + 1 := by rw [List.length_take]; omega
    have e1 : wrap64 (((l.take (n + 1)).length : Int) - 1) = (n : Int) := by rw [hlen, wrap_of (by omega) (by omega)]; omega
    have e2 : rd (l.take (n + 1)) n = rd l n := by
      rw [rd_at (by omega), rd_at (by omega), List.getElem_take]
    refine Ev.step (fun q => by rw [impl_trimmed.l0]) ?_
    rw [e1]
    refine Ev.ite_pos (by omega) (Ev.ite_pos (by omega) (Ev.ite_pos (by omega) ?_))
    unfold trimN
    by_cases e : rd l n = 0
    · rw [if_pos e]
      refine Ev.ite_pos (e2.trans e) (Ev.ite_pos (by omega) ?_)
      rw [Int.toNat_natCast, List.take_take, Nat.min_eq_left (by omega)]
      exact trim_loop_impl l hl n (by omega)
    · rw [if_neg e]
      exact Ev.ite_neg (fun q => e (e2.symm.trans q)) (Ev.now _)
theorem ev_impl_trimmed (l : List Int) (hl : l.length ≤ 17592186044415) : Ev (fun q => impl_trimmed.f q l) (trimL l) := by
  unfold impl_trimmed.f
  have h := trim_loop_impl l hl l.length (Nat.le_refl _)
  rw [List.take_length] at h
  exact h
/-- What is told of a list that was made. -/
def toldR (l : List Int) : List Int × Int := if isPolyB l = true then (l, 0) else ([], 3)
theorem toldR_le (l : List Int) : (toldR l).1.length ≤ 41 := by
  unfold toldR
  by_cases e : isPolyB l = true
  · rw [if_pos e]
    unfold isPolyB at e
    rw [Bool.and_eq_true] at e
    exact of_decide_eq_true e.1
  · rw [if_neg e]; simp
theorem ev_spec_l05Told (l : List Int) (hl : l.length ≤ 9223372036854775806) : Ev (fun q => spec_l05Told.f q l) (toldR l) := by
  unfold spec_l05Told.f toldR
  refine Ev.bind (ev_spec_l05Poly l hl) ?_
  by_cases e : isPolyB l = true
  · have r1 : (if isPolyB l = true then (l, (0 : Int)) else ([], 3)) = (l, 0) := if_pos e
    rw [r1]; exact Ev.ite_pos e (Ev.now _)
  · have r1 : (if isPolyB l = true then (l, (0 : Int)) else ([], 3)) = ([], 3) := if_neg e
    rw [r1]; exact Ev.ite_neg e (Ev.now _)
theorem ev_impl_told (l : List Int) (hl : l.length ≤ 17592186044415) : Ev (fun q => impl_toldPolynomial.f q l) (toldR (trimL l)) := by
  have h := trimN_le l l.length
  unfold impl_toldPolynomial.f toldR
  refine Ev.bind (ev_impl_trimmed l hl) (Ev.bind (ev_impl_IsPolynomial (trimL l) (by unfold trimL; omega)) ?_)
  by_cases e : isPolyB (trimL l) = true
  · have r1 : (if isPolyB (trimL l) = true then (trimL l, (0 : Int)) else ([], 3)) = (trimL l, 0) := if_pos e
    rw [r1]; exact Ev.ite_pos e (Ev.now _)
  · have r1 : (if isPolyB (trimL l) = true then (trimL l, (0 : Int)) else ([], 3)) = ([], 3) := if_neg e
    rw [r1]; exact Ev.ite_neg e (Ev.now _)
end Go.Proofs.Ytpfhbdpmafcnfaa.Pure
