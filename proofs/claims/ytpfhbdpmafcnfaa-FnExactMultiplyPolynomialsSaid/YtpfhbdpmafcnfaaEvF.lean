/-
  Plain laws of polynomials: the reference's and the program's test. No condition but sizes.
-/
import Derived.Test.YtpfhbdpmafcnfaaEvE
import Derived.Test.YtpfhbdpmafcnfaaEvA
import Derived.Test.YtpfhbdpmafcnfaaGlIsPolynomial
import Derived.Test.YtpfhbdpmafcnfaaG54
namespace Go.Proofs.Ytpfhbdpmafcnfaa.Pure
open Go.RowKit Go.Proofs.Ytpfhbdpmafcnfaa.G Go.Proofs.YtpfhbdpmafcnfaaW.PrintWords Go.Proofs.YtpfhbdpmafcnfaaW.PrintLast

theorem loop_any_impl_IsPolynomial_1 (p : Int → Bool) (hp : ∀ x, impl_IsPolynomial_1.f x = some (p x)) (l : List Int) (hl : l.length ≤ 9223372036854775806) : ∀ (d k : Nat), k ≤ l.length → l.length - k = d → ∃ r, Ev (fun n => slices_IndexFunc_int64_int64_at_impl_IsPolynomial_1.l0 n l (l.length : Int) k) r ∧ decide (r ≥ 0) = (l.drop k).any p := by
  intro d
  induction d with
  | zero =>
    intro k hk hd
    obtain rfl : k = l.length := by omega
    refine ⟨-1, Ev.step (fun n => by rw [slices_IndexFunc_int64_int64_at_impl_IsPolynomial_1.l0]) (Ev.ite_neg (by omega) (Ev.now _)), ?_⟩
    rw [List.drop_length]; rfl
  | succ d ih =>
    intro k hk hd
    have hlt : k < l.length := by omega
    have hdr := List.drop_eq_getElem_cons hlt
    by_cases e : p l[k] = true
    · refine ⟨(k : Int), Ev.step (fun n => by rw [slices_IndexFunc_int64_int64_at_impl_IsPolynomial_1.l0]) (Ev.ite_pos (by omega) (Ev.ite_pos (by omega) (Ev.ite_pos (by omega) ?_))), ?_⟩
      · rw [rd_at hlt]
        exact Ev.bind (Ev.const (hp _)) (Ev.ite_pos e (Ev.now _))
      · rw [hdr, List.any_cons, e, Bool.true_or]
        exact decide_eq_true (by omega)
    · obtain ⟨r, h1, h2⟩ := ih (k + 1) (by omega) (by omega)
      refine ⟨r, Ev.step (fun n => by rw [slices_IndexFunc_int64_int64_at_impl_IsPolynomial_1.l0]) (Ev.ite_pos (by omega) (Ev.ite_pos (by omega) (Ev.ite_pos (by omega) ?_))), ?_⟩
      · rw [rd_at hlt, wrap_of (by omega) (by omega)]
        exact Ev.bind (Ev.const (hp _)) (Ev.ite_neg e h1)
      · rw [h2, hdr, List.any_cons]
        have e2 : p l[k] = false := by simpa using e
        rw [e2, Bool.false_or]
theorem ev_any_impl_IsPolynomial_1 (p : Int → Bool) (hp : ∀ x, impl_IsPolynomial_1.f x = some (p x)) (l : List Int) (hl : l.length ≤ 9223372036854775806) : Ev (fun n => slices_ContainsFunc_int64_int64_at_impl_IsPolynomial_1.f n l) (l.any p) := by
  unfold slices_ContainsFunc_int64_int64_at_impl_IsPolynomial_1.f slices_IndexFunc_int64_int64_at_impl_IsPolynomial_1.f
  obtain ⟨r, h1, h2⟩ := loop_any_impl_IsPolynomial_1 p hp l hl l.length 0 (by omega) (by omega)
  rw [List.drop_zero] at h2
  refine Ev.bind h1 ?_
  rw [h2]
  exact Ev.now _
def coefB (x : Int) : Bool := decide (-1000000000 ≤ x ∧ x ≤ 1000000000)
/-- Is a list a polynomial? -/
def isPolyB (l : List Int) : Bool := decide (l.length ≤ 41) && ((l.all coefB) && (l.getLast? != some 0))
theorem last_rd {l : List Int} (h : 0 < l.length) : l.getLast? = some (rd l ((l.length : Int) - 1)) := by
  rw [List.getLast?_eq_getElem?]
  have e : ((l.length : Int) - 1) = ((l.length - 1 : Nat) : Int) := by omega
  rw [e, rd_at (by omega), List.getElem?_eq_getElem (by omega)]
theorem coef_spec (x : Int) : spec_l01In.f x (-1000000000) 1000000000 = some (coefB x) := by
  unfold spec_l01In.f coefB
  by_cases h : x ≥ -1000000000
  · rw [if_pos h]
    congr 1
    have : (-1000000000 : Int) ≤ x := h
    simp [this]
  · rw [if_neg h]
    congr 1
    have : ¬ (-1000000000 : Int) ≤ x := h
    simp [this]
theorem coef_impl (x : Int) : impl_IsPolynomial_1.f x = some (!coefB x) := by
  unfold impl_IsPolynomial_1.f impl_coefOk.f impl_in.f coefB
  by_cases h : x ≥ -1000000000
  · rw [if_pos h]
    have : (-1000000000 : Int) ≤ x := h
    simp [this]
  · rw [if_neg h]
    have : ¬ (-1000000000 : Int) ≤ x := h
    simp [this]
theorem bne_last (l : List Int) (h : 0 < l.length) : (l.getLast? != some 0) = (rd l ((l.length : Int) - 1) != 0) := by
  rw [last_rd h]
  rfl
theorem poly_loop (l : List Int) (hl : l.length ≤ 9223372036854775806) : ∀ (d k : Nat), k ≤ l.length → l.length - k = d → Ev (fun n => spec_l05Poly.l0 n l k) (decide (l.length ≤ 41) && (((l.drop k).all coefB) && (l.getLast? != some 0))) := by
  intro d
  induction d with
  | zero =>
    intro k hk hd
    obtain rfl : k = l.length := by omega
    refine Ev.step (fun n => by rw [spec_l05Poly.l0]) ?_
    refine Ev.ite_neg (by omega) ?_
    rw [List.drop_length, List.all_nil, Bool.true_and]
    by_cases h : l.length ≤ 41
    · refine Ev.ite_pos (by omega) ?_
      rw [decide_eq_true h, Bool.true_and]
      by_cases h0 : l.length = 0
      · have e : l = [] := List.eq_nil_of_length_eq_zero h0
        subst e
        exact Ev.ite_pos rfl (Ev.now _)
      · refine Ev.ite_neg (by omega) ?_
        rw [wrap_of (by omega) (by omega)]
        refine Ev.ite_pos (by omega) (Ev.ite_pos (by omega) ?_)
        rw [bne_last l (by omega)]
        exact Ev.now _
    · refine Ev.ite_neg (by omega) ?_
      rw [decide_eq_false h]
      exact Ev.now _
  | succ d ih =>
    intro k hk hd
    have hlt : k < l.length := by omega
    refine Ev.step (fun n => by rw [spec_l05Poly.l0]) ?_
    refine Ev.ite_pos (by omega) (Ev.ite_pos (by omega) ?_)
    rw [rd_at hlt, wrap_of (by omega) (by omega), List.drop_eq_getElem_cons hlt, List.all_cons]
    refine Ev.bind (Ev.const (coef_spec _)) ?_
    by_cases e : coefB l[k] = true
    · refine Ev.ite_pos e ?_
      rw [e, Bool.true_and]
      exact ih (k + 1) (by omega) (by omega)
    · refine Ev.ite_neg e ?_
      have e2 : coefB l[k] = false := by simpa using e
      rw [e2, Bool.false_and, Bool.false_and, Bool.and_false]
      exact Ev.now _
theorem ev_spec_l05Poly (l : List Int) (hl : l.length ≤ 9223372036854775806) : Ev (fun n => spec_l05Poly.f n l) (isPolyB l) := by
  unfold spec_l05Poly.f isPolyB
  have h := poly_loop l hl l.length 0 (by omega) (by omega)
  simpa using h
theorem ev_impl_IsPolynomial (l : List Int) (hl : l.length ≤ 9223372036854775806) : Ev (fun n => impl_IsPolynomial.f n l) (isPolyB l) := by
  unfold impl_IsPolynomial.f isPolyB
  by_cases h : l.length ≤ 41
  · refine Ev.ite_neg (by omega) (Ev.bind (ev_any_impl_IsPolynomial_1 (fun x => !coefB x) coef_impl l hl) ?_)
    rw [decide_eq_true h, Bool.true_and]
    have e0 : (l.any fun x => !coefB x) = !(l.all coefB) := by
      rw [List.not_all_eq_any_not]
    rw [e0]
    by_cases c : l.all coefB = true
    · rw [c]
      refine Ev.ite_neg (by decide) ?_
      by_cases h0 : l.length = 0
      · have e : l = [] := List.eq_nil_of_length_eq_zero h0
        subst e
        exact Ev.ite_pos rfl (Ev.now _)
      · refine Ev.ite_neg (by omega) ?_
        rw [wrap_of (by omega) (by omega)]
        refine Ev.ite_pos (by omega) (Ev.ite_pos (by omega) ?_)
        rw [bne_last l (by omega), Bool.true_and]
        exact Ev.now _
    · have c2 : l.all coefB = false := by simpa using c
      rw [c2]
      exact Ev.ite_pos rfl (Ev.now _)
  · refine Ev.ite_pos (by omega) ?_
    rw [decide_eq_false h]
    exact Ev.now _
end Go.Proofs.Ytpfhbdpmafcnfaa.Pure
