/-
  Plain laws of Gauss codes: the reference's and the program's test, copies, comparison, sizes.
-/
import Derived.Test.YtckmncebedhgeaaEvA
import Derived.Test.YtckmncebedhgeaaEvW
import Derived.Test.YtckmncebedhgeaaGgH
import Derived.Test.YtckmncebedhgeaaGgU
import Derived.Test.YtckmncebedhgeaaGgG
namespace Go.Proofs.Ytckmncebedhgeaa.Pure
open Go.RowKit Go.Proofs.Ytckmncebedhgeaa.G Go.Proofs.Ytckmncebedhgeaa.Plain Go.Proofs.YtckmncebedhgeaaW.PrintWords Go.Proofs.YtckmncebedhgeaaW.PrintLast
set_option linter.unusedVariables false

theorem loop_any_impl_IsGauss_1 (p : Int → Bool) (hp : ∀ x, impl_IsGauss_1.f x = some (p x)) (l : List Int) (hl : l.length ≤ 9223372036854775806) : ∀ (d k : Nat), k ≤ l.length → l.length - k = d → ∃ r, Ev (fun n => slices_IndexFunc_int64_int64_at_impl_IsGauss_1.l0 n l (l.length : Int) k) r ∧ decide (r ≥ 0) = (l.drop k).any p := by
  intro d
  induction d with
  | zero =>
    intro k hk hd
    obtain rfl : k = l.length := by omega
    refine ⟨-1, Ev.step (fun n => by rw [slices_IndexFunc_int64_int64_at_impl_IsGauss_1.l0]) (Ev.ite_neg (by omega) (Ev.now _)), ?_⟩
    rw [List.drop_length]; rfl
  | succ d ih =>
    intro k hk hd
    have hlt : k < l.length := by omega
    have hdr := List.drop_eq_getElem_cons hlt
    by_cases e : p l[k] = true
    · refine ⟨(k : Int), Ev.step (fun n => by rw [slices_IndexFunc_int64_int64_at_impl_IsGauss_1.l0]) (Ev.ite_pos (by omega) (Ev.ite_pos (by omega) (Ev.ite_pos (by omega) ?_))), ?_⟩
      · rw [rd_at hlt]
        exact Ev.bind (Ev.const (hp _)) (Ev.ite_pos e (Ev.now _))
      · rw [hdr, List.any_cons, e, Bool.true_or]
        exact decide_eq_true (by omega)
    · obtain ⟨r, h1, h2⟩ := ih (k + 1) (by omega) (by omega)
      refine ⟨r, Ev.step (fun n => by rw [slices_IndexFunc_int64_int64_at_impl_IsGauss_1.l0]) (Ev.ite_pos (by omega) (Ev.ite_pos (by omega) (Ev.ite_pos (by omega) ?_))), ?_⟩
      · rw [rd_at hlt, wrap_of (by omega) (by omega)]
        exact Ev.bind (Ev.const (hp _)) (Ev.ite_neg e h1)
      · rw [h2, hdr, List.any_cons]
        have e2 : p l[k] = false := by simpa using e
        rw [e2, Bool.false_or]
theorem ev_any_impl_IsGauss_1 (p : Int → Bool) (hp : ∀ x, impl_IsGauss_1.f x = some (p x)) (l : List Int) (hl : l.length ≤ 9223372036854775806) : Ev (fun n => slices_ContainsFunc_int64_int64_at_impl_IsGauss_1.f n l) (l.any p) := by
  unfold slices_ContainsFunc_int64_int64_at_impl_IsGauss_1.f slices_IndexFunc_int64_int64_at_impl_IsGauss_1.f
  obtain ⟨r, h1, h2⟩ := loop_any_impl_IsGauss_1 p hp l hl l.length 0 (by omega) (by omega)
  rw [List.drop_zero] at h2
  refine Ev.bind h1 ?_
  rw [h2]
  exact Ev.now _
theorem loop_any_impl_IsGauss_2 (p : Int → Bool) (hp : ∀ x, impl_IsGauss_2.f x = some (p x)) (l : List Int) (hl : l.length ≤ 9223372036854775806) : ∀ (d k : Nat), k ≤ l.length → l.length - k = d → ∃ r, Ev (fun n => slices_IndexFunc_int64_int64_at_impl_IsGauss_2.l0 n l (l.length : Int) k) r ∧ decide (r ≥ 0) = (l.drop k).any p := by
  intro d
  induction d with
  | zero =>
    intro k hk hd
    obtain rfl : k = l.length := by omega
    refine ⟨-1, Ev.step (fun n => by rw [slices_IndexFunc_int64_int64_at_impl_IsGauss_2.l0]) (Ev.ite_neg (by omega) (Ev.now _)), ?_⟩
    rw [List.drop_length]; rfl
  | succ d ih =>
    intro k hk hd
    have hlt : k < l.length := by omega
    have hdr := List.drop_eq_getElem_cons hlt
    by_cases e : p l[k] = true
    · refine ⟨(k : Int), Ev.step (fun n => by rw [slices_IndexFunc_int64_int64_at_impl_IsGauss_2.l0]) (Ev.ite_pos (by omega) (Ev.ite_pos (by omega) (Ev.ite_pos (by omega) ?_))), ?_⟩
      · rw [rd_at hlt]
        exact Ev.bind (Ev.const (hp _)) (Ev.ite_pos e (Ev.now _))
      · rw [hdr, List.any_cons, e, Bool.true_or]
        exact decide_eq_true (by omega)
    · obtain ⟨r, h1, h2⟩ := ih (k + 1) (by omega) (by omega)
      refine ⟨r, Ev.step (fun n => by rw [slices_IndexFunc_int64_int64_at_impl_IsGauss_2.l0]) (Ev.ite_pos (by omega) (Ev.ite_pos (by omega) (Ev.ite_pos (by omega) ?_))), ?_⟩
      · rw [rd_at hlt, wrap_of (by omega) (by omega)]
        exact Ev.bind (Ev.const (hp _)) (Ev.ite_neg e h1)
      · rw [h2, hdr, List.any_cons]
        have e2 : p l[k] = false := by simpa using e
        rw [e2, Bool.false_or]
theorem ev_any_impl_IsGauss_2 (p : Int → Bool) (hp : ∀ x, impl_IsGauss_2.f x = some (p x)) (l : List Int) (hl : l.length ≤ 9223372036854775806) : Ev (fun n => slices_ContainsFunc_int64_int64_at_impl_IsGauss_2.f n l) (l.any p) := by
  unfold slices_ContainsFunc_int64_int64_at_impl_IsGauss_2.f slices_IndexFunc_int64_int64_at_impl_IsGauss_2.f
  obtain ⟨r, h1, h2⟩ := loop_any_impl_IsGauss_2 p hp l hl l.length 0 (by omega) (by omega)
  rw [List.drop_zero] at h2
  refine Ev.bind h1 ?_
  rw [h2]
  exact Ev.now _
def headB (x : Int) : Bool := decide (0 ≤ x ∧ x ≤ 1)
def signB (x : Int) : Bool := decide (x = 1 ∨ x = -1)
/-- Is it a Gauss code? -/
def isGaussB (w h s : List Int) : Bool := isWordB w && (decide (h.length = w.length / 2) && (decide (s.length = w.length / 2) && (h.all headB && s.all signB)))
theorem head_spec (x : Int) : spec_l01In.f x 0 1 = some (headB x) := by
  unfold spec_l01In.f headB
  by_cases h : x ≥ 0
  · rw [if_pos h]
    have : (0 : Int) ≤ x := h
    simp [this]
  · rw [if_neg h]
    have : ¬ (0 : Int) ≤ x := h
    simp [this]
theorem head_impl (x : Int) : impl_IsGauss_1.f x = some (!headB x) := by
  unfold impl_IsGauss_1.f impl_isHead.f impl_in.f headB
  by_cases h : x ≥ 0
  · rw [if_pos h]
    have : (0 : Int) ≤ x := h
    simp [this]
  · rw [if_neg h]
    have : ¬ (0 : Int) ≤ x := h
    simp [this]
theorem sign_impl (x : Int) : impl_IsGauss_2.f x = some (!signB x) := by
  unfold impl_IsGauss_2.f impl_isSign.f signB
  by_cases h : x = 1
  · rw [if_pos h]
    simp [h]
  · rw [if_neg h]
    by_cases g : x = -1
    · subst g; rfl
    · simp [h, g]
theorem gauss_loop (w h s : List Int) (n : Nat) (hn : n ≤ 9223372036854775806) (hh : h.length = n) (hs : s.length = n) : ∀ (d k : Nat), k ≤ n → n - k = d → Ev (fun q => spec_l07Is.l0 q n k w h s) ((h.drop k).all headB && (s.drop k).all signB) := by
  intro d
  induction d with
  | zero =>
    intro k hk hd
    obtain rfl : k = n := by omega
    refine Ev.step (fun q => by rw [spec_l07Is.l0]) ?_
    refine Ev.ite_neg (by omega) ?_
    rw [List.drop_of_length_le (by omega), List.drop_of_length_le (by omega)]
    exact Ev.now _
  | succ d ih =>
    intro k hk hd
    have h1 : k < h.length := by omega
    have h2 : k < s.length := by omega
    refine Ev.step (fun q => by rw [spec_l07Is.l0]) ?_
    refine Ev.ite_pos (by omega) (Ev.ite_pos (by omega) (Ev.ite_pos (by omega) ?_))
    rw [rd_at h1, rd_at h2, wrap_of (by omega) (by omega), List.drop_eq_getElem_cons h1, List.drop_eq_getElem_cons h2, List.all_cons, List.all_cons]
    refine Ev.bind (Ev.const (head_spec _)) ?_
    by_cases e : headB h[k] = true
    · refine Ev.ite_pos e (Ev.ite_pos (by omega) ?_)
      rw [e, Bool.true_and]
      have ih2 := ih (k + 1) (by omega) (by omega)
      by_cases e1 : s[k] = 1
      · refine Ev.ite_pos e1 ?_
        have : signB s[k] = true := by simp [signB, e1]
        rw [this, Bool.true_and]
        exact ih2
      · refine Ev.ite_neg e1 ?_
        by_cases e2 : s[k] = -1
        · refine Ev.ite_pos e2 ?_
          have : signB s[k] = true := by simp [signB, e2]
          rw [this, Bool.true_and]
          exact ih2
        · refine Ev.ite_neg e2 ?_
          have : signB s[k] = false := by simp [signB, e1, e2]
          rw [this, Bool.false_and, Bool.and_false]
          exact Ev.now _
    · refine Ev.ite_neg e ?_
      have e2 : headB h[k] = false := by simpa using e
      rw [e2, Bool.false_and, Bool.false_and]
      exact Ev.now _
theorem half_cast (n : Nat) (hn : n ≤ 1048576) : wrap64 ((n : Int) / 2) = ((n / 2 : Nat) : Int) := by
  rw [wrap_of (by omega) (by omega)]; omega
theorem ev_spec_l07Is (w h s : List Int) (hw : w.length ≤ 1048576) (hs : s.length ≤ 1048576) : Ev (fun n => spec_l07Is.f n w h s) (isGaussB w h s) := by
  unfold spec_l07Is.f isGaussB
  refine Ev.bind (ev_spec_l01Is w) ?_
  rw [half_cast _ hw]
  by_cases e : isWordB w = true
  · refine Ev.ite_pos e ?_
    rw [e, Bool.true_and]
    by_cases e1 : h.length = w.length / 2
    · refine Ev.ite_pos (by omega) ?_
      rw [decide_eq_true e1, Bool.true_and]
      refine Ev.step (fun q => by rw [spec_l07Is.j0]) ?_
      by_cases e2 : s.length = w.length / 2
      · refine Ev.ite_neg (by simp [e2]) ?_
        rw [decide_eq_true e2, Bool.true_and]
        have := gauss_loop w h s (w.length / 2) (by omega) e1 e2 (w.length / 2) 0 (by omega) (by omega)
        simpa using this
      · refine Ev.ite_pos (by simp; omega) ?_
        rw [decide_eq_false e2, Bool.false_and]
        exact Ev.now _
    · refine Ev.ite_neg (by omega) ?_
      rw [decide_eq_false e1, Bool.false_and]
      refine Ev.step (fun q => by rw [spec_l07Is.j0]) ?_
      exact Ev.ite_pos rfl (Ev.now _)
  · refine Ev.ite_neg e ?_
    have e2 : isWordB w = false := by simpa using e
    rw [e2, Bool.false_and]
    refine Ev.step (fun q => by rw [spec_l07Is.j0]) ?_
    exact Ev.ite_pos rfl (Ev.now _)
theorem ev_spec_IsGauss (w h s : List Int) (hw : w.length ≤ 1048576) (hs : s.length ≤ 1048576) : Ev (fun n => spec_IsGauss.f n w h s) (isGaussB w h s) := by
  unfold spec_IsGauss.f
  exact Ev.bind (ev_spec_l07Is w h s hw hs) (Ev.now _)
theorem ev_impl_IsGauss (w h s : List Int) (hf : wfB w = true) (hw : w.length ≤ 1048576) (hh : h.length ≤ 1048576) (hs : s.length ≤ 1048576) : Ev (fun n => impl_IsGauss.f n w h s) (isGaussB w h s) := by
  unfold impl_IsGauss.f isGaussB
  refine Ev.bind (ev_impl_IsWord w hf) ?_
  by_cases e : isWordB w = true
  · refine Ev.ite_pos e ?_
    rw [e, Bool.true_and]
    have C : Ev (fun _ : Nat => impl_chords.f w) ((w.length / 2 : Nat) : Int) := by
      unfold impl_chords.f
      rw [half_cast _ hw]
      exact Ev.now _
    refine Ev.bind C ?_
    by_cases e1 : h.length = w.length / 2
    · refine Ev.ite_pos (by omega) (Ev.bind C ?_)
      rw [decide_eq_true e1, Bool.true_and]
      refine Ev.step (fun q => by rw [impl_IsGauss.j0]) ?_
      by_cases e2 : s.length = w.length / 2
      · refine Ev.ite_neg (by simp [e2]) ?_
        rw [decide_eq_true e2, Bool.true_and]
        refine Ev.bind (ev_any_impl_IsGauss_1 (fun x => !headB x) head_impl h (by omega)) ?_
        have a0 : (h.any fun x => !headB x) = !(h.all headB) := by rw [List.not_all_eq_any_not]
        have b0 : (s.any fun x => !signB x) = !(s.all signB) := by rw [List.not_all_eq_any_not]
        rw [a0]
        by_cases c : h.all headB = true
        · rw [c, Bool.true_and]
          refine Ev.ite_neg (by decide) (Ev.bind (ev_any_impl_IsGauss_2 (fun x => !signB x) sign_impl s (by omega)) ?_)
          rw [b0, Bool.not_not]
          exact Ev.now _
        · have c2 : h.all headB = false := by simpa using c
          rw [c2, Bool.false_and]
          exact Ev.ite_pos rfl (Ev.now _)
      · refine Ev.ite_pos (by simp; omega) ?_
        rw [decide_eq_false e2, Bool.false_and]
        exact Ev.now _
    · refine Ev.ite_neg (by omega) ?_
      rw [decide_eq_false e1, Bool.false_and]
      refine Ev.step (fun q => by rw [impl_IsGauss.j0]) ?_
      exact Ev.ite_pos rfl (Ev.now _)
  · refine Ev.ite_neg e ?_
    have e2 : isWordB w = false := by simpa using e
    rw [e2, Bool.false_and]
    refine Ev.step (fun q => by rw [impl_IsGauss.j0]) ?_
    exact Ev.ite_pos rfl (Ev.now _)
theorem szInt64S_f (l : List Int) (a : Int) (h0 : 0 ≤ a) (h1 : a ≤ 1048576) (hl : l.length ≤ maxLen) : laws_szInt64S.f l a = some (if a - l.length < 0 then -1 else a - l.length) := by
  unfold laws_szInt64S.f
  have hl2 : l.length ≤ 9223372036854775807 := hl
  rw [wrap_of (by omega) (by omega)]
  by_cases c : a - (l.length : Int) < 0
  · rw [if_pos c, if_pos c]
  · rw [if_neg c, if_neg c]
theorem ev_eqGauss_same (w h s : List Int) (hw : w.length ≤ 1048576) (hh : h.length ≤ 1048576) (hs : s.length ≤ 1048576) : Ev (fun n => laws_eqGauss.f n w h s w h s) true := by
  unfold laws_eqGauss.f
  exact Ev.bind (ev_eq_same w (by omega)) (Ev.ite_pos rfl (Ev.bind (ev_eq_same h (by omega)) (Ev.ite_pos rfl (Ev.bind (ev_eq_same s (by omega)) (Ev.ite_pos rfl (Ev.now _))))))
end Go.Proofs.Ytckmncebedhgeaa.Pure
