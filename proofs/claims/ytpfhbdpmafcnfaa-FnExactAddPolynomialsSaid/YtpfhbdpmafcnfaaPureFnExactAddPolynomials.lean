/-
  The given law laws.FnExactAddPolynomials returns true for every two lists and every number: the program's AddPolynomials answers as the reference's.
-/
import Derived.Test.YtpfhbdpmafcnfaaEvT
import Derived.Test.YtpfhbdpmafcnfaaPlainA
import Derived.Test.YtpfhbdpmafcnfaaGlAddPolynomials
namespace Go.Proofs.Ytpfhbdpmafcnfaa.Pure
open Go.RowKit Go.Proofs.Ytpfhbdpmafcnfaa.G Go.Proofs.Ytpfhbdpmafcnfaa.Plain Go.Proofs.YtpfhbdpmafcnfaaW.PrintWords Go.Proofs.YtpfhbdpmafcnfaaW.PrintLast Go.Proofs.YtpfhbdpmafcnfaaW.PrintMore
set_option linter.unusedVariables false

/-- c times b is added, from place i on, d places. -/
def addG (b : List Int) (c : Int) : Nat → Nat → List Int → List Int
  | 0, _, y => y
  | d + 1, i, y => addG b c d (i + 1) (y.set i (wrap64 (rd y i + wrap64 (c * rd b i))))
theorem addG_length (b : List Int) (c : Int) : ∀ d i y, (addG b c d i y).length = y.length
  | 0, _, _ => rfl
  | d + 1, i, y => by unfold addG; rw [addG_length, List.length_set]
/-- Where the sum begins: the first list, and noughts. -/
def addS (a b : List Int) : List Int := a ++ (List.replicate (mx (a.length : Int) (b.length : Int)).toNat 0).drop a.length
theorem mx_nat (a b : Nat) : (mx (a : Int) (b : Int)).toNat = max a b := by unfold mx; split <;> omega
theorem mx_pos (a b : Nat) : 0 ≤ mx (a : Int) (b : Int) := by unfold mx; split <;> omega
theorem addS_length (a b : List Int) : (addS a b).length = max a.length b.length := by
  unfold addS; rw [mx_nat]; simp; omega
theorem add_copy (a : List Int) (n k : Nat) (hk : k < a.length) (hn : a.length ≤ n) : (a.take k ++ (List.replicate n (0 : Int)).drop k).set k a[k] = a.take (k + 1) ++ (List.replicate n (0 : Int)).drop (k + 1) := by
  apply List.ext_getElem
  · simp; omega
  · intro i h1 h2
    rw [List.getElem_set]
    by_cases e : k = i
    · subst e
      rw [if_pos rfl, List.getElem_append_left (by simp; omega)]
      simp
    · rw [if_neg e, List.getElem_append, List.getElem_append]
      simp only [List.length_take, List.getElem_take, List.drop_replicate, List.getElem_replicate]
      by_cases hi : i < k
      · rw [dif_pos (by omega), dif_pos (by omega)]
      · rw [dif_neg (by omega), dif_neg (by omega)]
theorem plus_second (b : List Int) (c : Int) (r : List Int) : ∀ (d k : Nat) (y : List Int), b.length ≤ y.length → y.length ≤ 17592186044415 → k ≤ b.length → b.length - k = d → trimL (addG b c d k y) = r → Ev (fun n => spec_l05Plus.l1 n b c y k) r := by
  intro d
  induction d with
  | zero =>
    intro k y hb hy hk hd hr
    refine Ev.step (fun n => by rw [spec_l05Plus.l1]) (Ev.ite_neg (by omega) ?_)
    rw [← hr]
    exact Ev.bind (ev_spec_l05Trim y hy) (Ev.now _)
  | succ d ih =>
    intro k y hb hy hk hd hr
    refine Ev.step (fun n => by rw [spec_l05Plus.l1]) (Ev.ite_pos (by omega) (Ev.ite_pos (by omega) (Ev.ite_pos (by omega) ?_)))
    rw [Int.toNat_natCast, wrap_of (x := (k : Int) + 1) (by omega) (by omega)]
    exact ih (k + 1) _ (by rw [List.length_set]; exact hb) (by rw [List.length_set]; exact hy) (by omega) (by omega) hr
theorem plus_first (a b : List Int) (c : Int) (n : Nat) (hn : a.length ≤ n) (hb : b.length ≤ n) (hm : n ≤ 17592186044415) (r : List Int) (hr : trimL (addG b c b.length 0 (a ++ (List.replicate n (0 : Int)).drop a.length)) = r) :
    ∀ (d k : Nat), k ≤ a.length → a.length - k = d → Ev (fun q => spec_l05Plus.l0 q a b c (a.take k ++ (List.replicate n (0 : Int)).drop k) k) r := by
  intro d
  induction d with
  | zero =>
    intro k hk hd
    obtain rfl : k = a.length := by omega
    refine Ev.step (fun q => by rw [spec_l05Plus.l0]) (Ev.ite_neg (by omega) ?_)
    rw [List.take_length]
    exact plus_second b c r b.length 0 _ (by simp; omega) (by simp; omega) (by omega) (by omega) hr
  | succ d ih =>
    intro k hk hd
    have hlt : k < a.length := by omega
    refine Ev.step (fun q => by rw [spec_l05Plus.l0]) (Ev.ite_pos (by omega) (Ev.ite_pos (by omega) (Ev.ite_pos (by simp; omega) ?_)))
    rw [Int.toNat_natCast, rd_at hlt, add_copy a n k hlt hn, wrap_of (x := (k : Int) + 1) (by omega) (by omega)]
    exact ih (k + 1) (by omega) (by omega)
theorem ev_spec_l05Plus (a b : List Int) (c : Int) (ha : a.length ≤ 1048576) (hb : b.length ≤ 1048576) : Ev (fun q => spec_l05Plus.f q a b c) (trimL (addG b c b.length 0 (addS a b))) := by
  unfold spec_l05Plus.f
  have hp := mx_pos a.length b.length
  refine Ev.ite_pos hp (Ev.ite_pos (by rw [mx_nat]; omega) ?_)
  rw [mx_nat]
  have h := plus_first a b c (max a.length b.length) (by omega) (by omega) (by omega) (trimL (addG b c b.length 0 (addS a b))) (by unfold addS; rw [mx_nat]) a.length 0 (by omega) (by omega)
  simpa using h
def kOk (c : Int) : Bool := decide (-1000 ≤ c ∧ c ≤ 1000)
theorem kOk_spec (x : Int) : spec_l01In.f x (-1000) 1000 = some (kOk x) := by
  unfold spec_l01In.f kOk
  by_cases h : x ≥ -1000
  · rw [if_pos h]
    have : (-1000 : Int) ≤ x := h
    simp [this]
  · rw [if_neg h]
    have : ¬ (-1000 : Int) ≤ x := h
    simp [this]
theorem kOk_impl (x : Int) : impl_in.f x (-1000) 1000 = some (kOk x) := by
  unfold impl_in.f kOk
  by_cases h : x ≥ -1000
  · rw [if_pos h]
    have : (-1000 : Int) ≤ x := h
    simp [this]
  · rw [if_neg h]
    have : ¬ (-1000 : Int) ≤ x := h
    simp [this]
def AddPolynomialsR (a b : List Int) (c : Int) : List Int × Int :=
  if isPolyB a = true ∧ isPolyB b = true then (if kOk c = true then toldR (trimL (addG b c b.length 0 (addS a b))) else ([], 2)) else ([], 1)
theorem AddPolynomialsR_le (a b : List Int) (c : Int) (_ : a.length ≤ 1048576) (_ : b.length ≤ 1048576) : (AddPolynomialsR a b c).1.length ≤ 41 := by
  unfold AddPolynomialsR
  split
  · split
    · exact toldR_le _
    · simp
  · simp
theorem add_made_le (a b : List Int) (c : Int) (ha : a.length ≤ 1048576) (hb : b.length ≤ 1048576) : (trimL (addG b c b.length 0 (addS a b))).length ≤ 1048576 := by
  have h := trimN_le (addG b c b.length 0 (addS a b)) (addG b c b.length 0 (addS a b)).length
  unfold trimL
  rw [addG_length, addS_length] at h ⊢
  omega
theorem ev_spec_AddPolynomials (a b : List Int) (c : Int) (ha : a.length ≤ 1048576) (hb : b.length ≤ 1048576) : Ev (fun q => spec_AddPolynomials.f q a b c) (AddPolynomialsR a b c) := by
  unfold spec_AddPolynomials.f
  refine Ev.bind (ev_spec_l05Poly a (by omega)) ?_
  by_cases p : isPolyB a = true
  · refine Ev.ite_pos p (Ev.bind (ev_spec_l05Poly b (by omega)) (Ev.step (fun n => by rw [spec_AddPolynomials.j0]) ?_))
    by_cases q : isPolyB b = true
    · refine Ev.ite_neg (by simp [q]) (Ev.bind (Ev.const (kOk_spec c)) ?_)
      by_cases k : kOk c = true
      · have e : AddPolynomialsR a b c = toldR (trimL (addG b c b.length 0 (addS a b))) := by unfold AddPolynomialsR; rw [if_pos ⟨p, q⟩, if_pos k]
        rw [e]
        refine Ev.ite_pos k (Ev.bind (ev_spec_l05Plus a b c ha hb) (Ev.bind (ev_spec_l05Told _ ?_) (Ev.now _)))
        have := add_made_le a b c ha hb
        omega
      · have e : AddPolynomialsR a b c = ([], 2) := by unfold AddPolynomialsR; rw [if_pos ⟨p, q⟩, if_neg k]
        rw [e]
        exact Ev.ite_neg k (Ev.now _)
    · have e : AddPolynomialsR a b c = ([], 1) := by unfold AddPolynomialsR; rw [if_neg (fun h => q h.2)]
      rw [e]
      exact Ev.ite_pos (by simpa using q) (Ev.now _)
  · have e : AddPolynomialsR a b c = ([], 1) := by unfold AddPolynomialsR; rw [if_neg (fun h => p h.1)]
    rw [e]
    exact Ev.ite_neg p (Ev.step (fun n => by rw [spec_AddPolynomials.j0]) (Ev.ite_pos rfl (Ev.now _)))
theorem add_loop_impl (b : List Int) (c : Int) (r : List Int × Int) : ∀ (d k : Nat) (y : List Int), b.length ≤ y.length → y.length ≤ 17592186044415 → k ≤ b.length → b.length - k = d → toldR (trimL (addG b c d k y)) = r → Ev (fun n => impl_AddPolynomials.l0 n c y b (b.length : Int) k) r := by
  intro d
  induction d with
  | zero =>
    intro k y hb hy hk hd hr
    refine Ev.step (fun n => by rw [impl_AddPolynomials.l0]) (Ev.ite_neg (by omega) ?_)
    rw [← hr]
    exact Ev.bind (ev_impl_told y hy) (Ev.now _)
  | succ d ih =>
    intro k y hb hy hk hd hr
    refine Ev.step (fun n => by rw [impl_AddPolynomials.l0]) (Ev.ite_pos (by omega) (Ev.ite_pos (by omega) (Ev.ite_pos (by omega) (Ev.ite_pos (by omega) ?_))))
    rw [Int.toNat_natCast, wrap_of (x := (k : Int) + 1) (by omega) (by omega)]
    exact ih (k + 1) _ (by rw [List.length_set]; exact hb) (by rw [List.length_set]; exact hy) (by omega) (by omega) hr
theorem ev_impl_AddPolynomials (a b : List Int) (c : Int) (ha : a.length ≤ 1048576) (hb : b.length ≤ 1048576) (_ : wfB a = true) (_ : wfB b = true) : Ev (fun q => impl_AddPolynomials.f q a b c) (AddPolynomialsR a b c) := by
  unfold impl_AddPolynomials.f
  refine Ev.bind (ev_impl_IsPolynomial a (by omega)) ?_
  by_cases p : isPolyB a = true
  · refine Ev.ite_pos p (Ev.bind (ev_impl_IsPolynomial b (by omega)) (Ev.step (fun n => by rw [impl_AddPolynomials.j0]) ?_))
    by_cases q : isPolyB b = true
    · refine Ev.ite_neg (by simp [q]) (Ev.bind (Ev.const (kOk_impl c)) ?_)
      by_cases k : kOk c = true
      · have e : AddPolynomialsR a b c = toldR (trimL (addG b c b.length 0 (addS a b))) := by unfold AddPolynomialsR; rw [if_pos ⟨p, q⟩, if_pos k]
        rw [e]
        have hl := addS_length a b
        refine Ev.ite_pos k (Ev.ite_pos (mx_pos _ _) (Ev.ite_pos (by rw [mx_nat]; omega) ?_))
        exact add_loop_impl b c _ b.length 0 (addS a b) (by omega) (by omega) (by omega) (by omega) rfl
      · have e : AddPolynomialsR a b c = ([], 2) := by unfold AddPolynomialsR; rw [if_pos ⟨p, q⟩, if_neg k]
        rw [e]
        exact Ev.ite_neg k (Ev.now _)
    · have e : AddPolynomialsR a b c = ([], 1) := by unfold AddPolynomialsR; rw [if_neg (fun h => q h.2)]
      rw [e]
      exact Ev.ite_pos (by simpa using q) (Ev.now _)
  · have e : AddPolynomialsR a b c = ([], 1) := by unfold AddPolynomialsR; rw [if_neg (fun h => p h.1)]
    rw [e]
    exact Ev.ite_neg p (Ev.step (fun n => by rw [impl_AddPolynomials.j0]) (Ev.ite_pos rfl (Ev.now _)))
theorem FnExactAddPolynomials : laws_FnExactAddPolynomials.Pure := by
  intro l0 l1 i2 hml0 hsl0 hwl0 hml1 hsl1 hwl1 hsi2
  have hfl0 : wfB l0 = true := List.all_eq_true.2 hwl0
  have hfl1 : wfB l1 = true := List.all_eq_true.2 hwl1
  refine Ev.rounds ?_
  unfold laws_FnExactAddPolynomials.f
  by_cases hl0 : l0.length ≤ 1048576
  rotate_left
  · exact Ev.ite_pos (by omega) (Ev.now _)
  by_cases hl1 : l1.length ≤ 1048576
  rotate_left
  · exact Ev.ite_neg (by omega) (Ev.ite_pos (by omega) (Ev.now _))
  have hr := AddPolynomialsR_le l0 l1 i2 hl0 hl1
  have S := ev_spec_AddPolynomials l0 l1 i2 hl0 hl1
  have I := ev_impl_AddPolynomials l0 l1 i2 hl0 hl1 hfl0 hfl1
  have Tl0 := ev_toInt64S l0 (by omega)
  have El0 := ev_eq_same l0 (by omega)
  have Ml0 := ev_markInt64S l0 1 (by omega) (by omega)
  have Tl1 := ev_toInt64S l1 (by omega)
  have El1 := ev_eq_same l1 (by omega)
  have Ml1 := ev_markInt64S l1 1 (by omega) (by omega)
  have ER := ev_eq_same (AddPolynomialsR l0 l1 i2).1 (by omega)
  have MR := ev_markInt64S (AddPolynomialsR l0 l1 i2).1 1 (by omega) (by omega)
  have HR := ev_heldInt64S (AddPolynomialsR l0 l1 i2).1.length 1 (by omega) (by omega)
  have MQ := ev_markInt64S l1 (1 + (l0.length : Int)) (by omega) (by omega)
  repeat (first
    | exact Ev.now _
    | refine Ev.bind Tl0 ?_
    | refine Ev.bind Tl1 ?_
    | refine Ev.bind S ?_
    | refine Ev.bind I ?_
    | refine Ev.bind El0 ?_
    | refine Ev.bind Ml0 ?_
    | refine Ev.bind El1 ?_
    | refine Ev.bind Ml1 ?_
    | refine Ev.bind ER ?_
    | refine Ev.bind MR ?_
    | refine Ev.bind HR ?_
    | refine Ev.bind MQ ?_
    | refine Ev.ite_pos rfl ?_
    | (refine Ev.ite_neg ?_ ?_; focus (first | (simp; done) | (simp; omega) | omega))
    | (apply Ev.step; focus (intro n; first | rw [laws_FnExactAddPolynomials.j0] | rw [laws_FnExactAddPolynomials.j1] | rw [laws_FnExactAddPolynomials.j2])))
end Go.Proofs.Ytpfhbdpmafcnfaa.Pure
