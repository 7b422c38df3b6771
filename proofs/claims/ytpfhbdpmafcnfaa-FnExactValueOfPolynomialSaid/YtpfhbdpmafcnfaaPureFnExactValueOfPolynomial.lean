/-
  The given law laws.FnExactValueOfPolynomial returns true for every list and all numbers: the program's ValueOfPolynomial answers as the reference's.
-/
import Derived.Test.YtpfhbdpmafcnfaaEvF
import Derived.Test.YtpfhbdpmafcnfaaEvI
import Derived.Test.YtpfhbdpmafcnfaaGlValueOfPolynomial
namespace Go.Proofs.Ytpfhbdpmafcnfaa.Pure
open Go.RowKit Go.Proofs.Ytpfhbdpmafcnfaa.G Go.Proofs.Ytpfhbdpmafcnfaa.Plain Go.Proofs.YtpfhbdpmafcnfaaW.PrintWords Go.Proofs.YtpfhbdpmafcnfaaW.PrintLast
set_option linter.unusedVariables false

def primeV (p : Int) : Bool := decide (p ∈ ([2, 3, 5, 7, 11, 13] : List Int))
theorem inV_spec (x a b : Int) : spec_l01In.f x a b = some (decide (a ≤ x ∧ x ≤ b)) := by
  unfold spec_l01In.f
  by_cases h : x ≥ a
  · rw [if_pos h]
    have : a ≤ x := h
    simp [this]
  · rw [if_neg h]
    have : ¬ a ≤ x := h
    simp [this]
theorem inV_impl (x a b : Int) : impl_in.f x a b = some (decide (a ≤ x ∧ x ≤ b)) := by
  unfold impl_in.f
  by_cases h : x ≥ a
  · rw [if_pos h]
    have : a ≤ x := h
    simp [this]
  · rw [if_neg h]
    have : ¬ a ≤ x := h
    simp [this]
theorem primeV_spec (p : Int) : spec_l03Prime.f p = some (primeV p) := by
  unfold spec_l03Prime.f primeV
  by_cases h2 : p = 2
  · subst h2; rfl
  · rw [if_neg h2]
    by_cases h3 : p = 3
    · subst h3; rfl
    · rw [if_neg h3]
      by_cases h5 : p = 5
      · subst h5; rfl
      · rw [if_neg h5]
        by_cases h7 : p = 7
        · subst h7; rfl
        · rw [if_neg h7]
          by_cases h11 : p = 11
          · subst h11; rfl
          · rw [if_neg h11]
            by_cases h13 : p = 13
            · subst h13; rfl
            · simp [h2, h3, h5, h7, h11, h13]
theorem primeV_impl (p : Int) : Ev (fun n => impl_isPrime.f n p) (primeV p) := by
  unfold impl_isPrime.f primeV
  exact Ev.bind (ev_slices_ContainsI _ p (by decide)) (Ev.now _)
theorem primeV_ne {p : Int} (h : primeV p = true) : p ≠ 0 := by
  rintro rfl
  revert h
  decide
def okV (x p : Int) : Bool := primeV p && decide (0 ≤ x ∧ x ≤ wrap64 (p - 1))
theorem ev_okV_impl (x p : Int) : Ev (fun n => impl_valueOk.f n p x) (okV x p) := by
  unfold impl_valueOk.f okV
  refine Ev.bind (primeV_impl p) ?_
  by_cases e : primeV p = true
  · rw [e, Bool.true_and]
    exact Ev.ite_pos rfl (Ev.bind (Ev.const (inV_impl _ _ _)) (Ev.now _))
  · have e2 := Bool.eq_false_iff.mpr e
    rw [e2, Bool.false_and]
    exact Ev.ite_neg (by simp) (Ev.now _)
def VopR (l : List Int) (x p : Int) : Int × Int := if isPolyB l = true then (if okV x p = true then (valL x p ((bkL l l.length).map Prod.snd), 0) else (0, 2)) else (0, 1)
theorem ev_impl_ValueOfPolynomial (l : List Int) (x p : Int) (hl : l.length ≤ 1048576) : Ev (fun n => impl_ValueOfPolynomial.f n l x p) (VopR l x p) := by
  unfold impl_ValueOfPolynomial.f
  refine Ev.bind (ev_impl_IsPolynomial l (by omega)) ?_
  by_cases a : isPolyB l = true
  · refine Ev.ite_pos a (Ev.bind (ev_okV_impl x p) ?_)
    by_cases b : okV x p = true
    · have r : VopR l x p = (valL x p ((bkL l l.length).map Prod.snd), 0) := by unfold VopR; rw [if_pos a, if_pos b]
      rw [r]
      have hp : p ≠ 0 := by unfold okV at b; rw [Bool.and_eq_true] at b; exact primeV_ne b.1
      exact Ev.ite_pos b (Ev.ite_neg hp (Ev.now _))
    · have r : VopR l x p = (0, 2) := by unfold VopR; rw [if_pos a, if_neg b]
      rw [r]
      exact Ev.ite_neg b (Ev.now _)
  · have r : VopR l x p = (0, 1) := by unfold VopR; rw [if_neg a]
    rw [r]
    exact Ev.ite_neg a (Ev.now _)
theorem value_loop (l : List Int) (x p : Int) (hp : p ≠ 0) (hl : l.length ≤ 1048576) : ∀ (d k : Nat), k ≤ l.length → l.length - k = d → ∀ v : Int, v = (l.length : Int) - 1 - k → Ev (fun n => spec_ValueOfPolynomial.l0 n l x p (valL x p ((bkL l k).map Prod.snd)) v) (valL x p ((bkL l l.length).map Prod.snd), 0) := by
  intro d
  induction d with
  | zero =>
    intro k hk hd v hv
    obtain rfl : k = l.length := by omega
    exact Ev.step (fun n => by rw [spec_ValueOfPolynomial.l0]) (Ev.ite_neg (by omega) (Ev.now _))
  | succ d ih =>
    intro k hk hd v hv
    have e : spec_l03Mod.f p (wrap64 (wrap64 (valL x p ((bkL l k).map Prod.snd) * x) + rd l v)) = some (valL x p ((bkL l (k + 1)).map Prod.snd)) := by
      rw [bkL_succ, List.map_append, List.map_cons, List.map_nil, valL_snoc]
      unfold spec_l03Mod.f bkF valS
      rw [if_neg hp, hv]
    refine Ev.step (fun n => by rw [spec_ValueOfPolynomial.l0]) (Ev.ite_pos (by omega) (Ev.ite_pos (by omega) (Ev.ite_pos (by omega) (Ev.bind (Ev.const e) ?_))))
    rw [wrap_of (x := v - 1) (by omega) (by omega)]
    exact ih (k + 1) (by omega) (by omega) (v - 1) (by omega)
theorem ev_spec_ValueOfPolynomial (l : List Int) (x p : Int) (hl : l.length ≤ 1048576) : Ev (fun n => spec_ValueOfPolynomial.f n l x p) (VopR l x p) := by
  unfold spec_ValueOfPolynomial.f
  refine Ev.bind (ev_spec_l05Poly l (by omega)) ?_
  by_cases a : isPolyB l = true
  · refine Ev.ite_pos a (Ev.bind (Ev.const (primeV_spec p)) ?_)
    by_cases b : primeV p = true
    · refine Ev.ite_pos b (Ev.bind (Ev.const (inV_spec _ _ _)) ?_)
      by_cases c : 0 ≤ x ∧ x ≤ wrap64 (p - 1)
      · have b2 : okV x p = true := by unfold okV; rw [b, decide_eq_true c]; rfl
        have r : VopR l x p = (valL x p ((bkL l l.length).map Prod.snd), 0) := by unfold VopR; rw [if_pos a, if_pos b2]
        rw [r]
        refine Ev.ite_pos (decide_eq_true c) ?_
        rw [wrap_of (x := (l.length : Int) - 1) (by omega) (by omega)]
        exact value_loop l x p (primeV_ne b) hl l.length 0 (by omega) (by omega) _ (by omega)
      · have b2 : ¬ okV x p = true := by unfold okV; rw [decide_eq_false c, Bool.and_false]; simp
        have r : VopR l x p = (0, 2) := by unfold VopR; rw [if_pos a, if_neg b2]
        rw [r]
        exact Ev.ite_neg (by rw [decide_eq_true_eq]; exact c) (Ev.now _)
    · have b2 : ¬ okV x p = true := by unfold okV; rw [Bool.eq_false_iff.mpr b, Bool.false_and]; simp
      have r : VopR l x p = (0, 2) := by unfold VopR; rw [if_pos a, if_neg b2]
      rw [r]
      exact Ev.ite_neg b (Ev.now _)
  · have r : VopR l x p = (0, 1) := by unfold VopR; rw [if_neg a]
    rw [r]
    exact Ev.ite_neg a (Ev.now _)
theorem FnExactValueOfPolynomial : laws_FnExactValueOfPolynomial.Pure := by
  intro l x p hm hs hw hx hp
  refine Ev.rounds ?_
  unfold laws_FnExactValueOfPolynomial.f
  by_cases h : l.length ≤ 1048576
  · have T := ev_toInt64S l (by omega)
    have S := ev_spec_ValueOfPolynomial l x p h
    have I := ev_impl_ValueOfPolynomial l x p h
    have E := ev_eq_same l (by omega)
    refine Ev.ite_neg (by omega) (Ev.bind T (Ev.bind S (Ev.bind T (Ev.bind I (Ev.ite_pos rfl ?_)))))
    refine Ev.step (fun n => by rw [laws_FnExactValueOfPolynomial.j0]) ?_
    exact Ev.ite_neg (by simp) (Ev.bind T (Ev.bind E (Ev.ite_pos rfl (Ev.now _))))
  · exact Ev.ite_pos (by omega) (Ev.now _)
end Go.Proofs.Ytpfhbdpmafcnfaa.Pure
