/-
  The given law laws.FnExactRotationNumber returns true for every list: the program's RotationNumber answers as the reference's. No condition.
-/
import Derived.Test.YtaegjapbkkfpdaaEvS
import Derived.Test.YtaegjapbkkfpdaaPlainS
import Derived.Test.YtaegjapbkkfpdaaGlRotationNumber
namespace Go.Proofs.Ytaegjapbkkfpdaa.Pure
open Go.RowKit Go.Proofs.Ytaegjapbkkfpdaa.G Go.Proofs.Ytaegjapbkkfpdaa.Plain Go.Proofs.YtaegjapbkkfpdaaW.PrintWords Go.Proofs.YtaegjapbkkfpdaaW.PrintLast

/-- What RotationNumber answers. -/
def RotationNumberR (w : List Int) : Int × Int := if isWordB w = true then ((perL w : Int), 0) else (0, 1)
theorem stays_upTo {w : List Int} {p : Nat} (hp : 0 < p) (h : ∀ k, k ≤ w.length → (rotL w k = w ↔ p ∣ k)) : ∀ d k : Nat, k + d ≤ w.length → staysFrom w d k + upTo p k = upTo p (k + d)
  | 0, k, _ => by unfold staysFrom; rw [Nat.zero_add, Nat.add_zero]
  | d + 1, k, hd => by
    have ih := stays_upTo hp h d (k + 1) (by omega)
    rw [upTo_step hp k, show k + 1 + d = k + (d + 1) by omega] at ih
    unfold staysFrom
    by_cases q : p ∣ k
    · rw [if_pos q] at ih
      rw [if_pos ((h k (by omega)).2 q)]
      omega
    · rw [if_neg q] at ih
      rw [if_neg (fun z => q ((h k (by omega)).1 z))]
      omega
theorem per_stays {w : List Int} (h : isWordB w = true) : max (w.length / staysL w) 1 = perL w := by
  by_cases hn : w = []
  · subst hn; rfl
  · have h0 : 0 < w.length := by
      rcases Nat.eq_zero_or_pos w.length with z | z
      · exact absurd (List.length_eq_zero_iff.1 z) hn
      · exact z
    obtain ⟨h1, ⟨q, hq⟩, h3⟩ := perL_dvd h h0
    have e := stays_upTo h1 h3 w.length 0 (by omega)
    have q0 : 0 < q := by
      rcases Nat.eq_zero_or_pos q with z | z
      · rw [z] at hq; omega
      · exact z
    have e2 : staysL w = q := by
      rw [stays_pos h hn]
      have e3 : upTo (perL w) (0 + w.length) = q := by rw [Nat.zero_add, hq]; exact upTo_mul h1 q
      rw [e3] at e
      exact e
    have e4 : w.length / staysL w = perL w := by
      rw [e2]
      rw (occs := .pos [1]) [hq]
      exact Nat.mul_div_cancel _ q0
    rw [e4]
    omega
theorem rotation_loop (w : List Int) (hl : w.length ≤ 1048576) : ∀ (d k : Nat), 1 ≤ k → k ≤ w.length + 1 → w.length - k = d → Ev (fun n => spec_RotationNumber.l0 n w k) ((perFrom w d k : Int), 0) := by
  intro d
  induction d with
  | zero =>
    intro k hk1 hk2 hd
    refine Ev.step (fun n => by rw [spec_RotationNumber.l0]) ?_
    refine Ev.ite_neg (by omega) ?_
    exact Ev.now _
  | succ d ih =>
    intro k hk1 hk2 hd
    refine Ev.step (fun n => by rw [spec_RotationNumber.l0]) ?_
    refine Ev.ite_pos (by omega) (Ev.bind (ev_spec_l01Rotate w k (by omega) hl) (Ev.bind (ev_spec_l01Same _ _ (by rw [rotL_length]; omega)) ?_))
    have e3 : (k : Int) + 1 = ((k + 1 : Nat) : Int) := by omega
    by_cases h : rotL w k = w
    · refine Ev.ite_pos (decide_eq_true h) ?_
      unfold perFrom
      rw [if_pos h]
      exact Ev.now _
    · refine Ev.ite_neg (by simpa using h) ?_
      rw [wrap_of (by omega) (by omega), e3]
      have := ih (k + 1) (by omega) (by omega) (by omega)
      unfold perFrom
      rw [if_neg h]
      exact this
theorem ev_spec_RotationNumber (w : List Int) (hl : w.length ≤ 1048576) : Ev (fun n => spec_RotationNumber.f n w) (RotationNumberR w) := by
  unfold spec_RotationNumber.f
  refine Ev.bind (ev_spec_l01Is w) ?_
  by_cases h : isWordB w = true
  · have e : RotationNumberR w = ((perL w : Int), 0) := by unfold RotationNumberR; rw [if_pos h]
    rw [e]
    exact Ev.ite_pos h (rotation_loop w hl (w.length - 1) 1 (by omega) (by omega) (by omega))
  · have e : RotationNumberR w = (0, 1) := by unfold RotationNumberR; rw [if_neg h]
    rw [e]
    exact Ev.ite_neg h (Ev.now _)
theorem ev_impl_RotationNumber (w : List Int) (hl : w.length ≤ 1048576) (hw : wfB w = true) : Ev (fun n => impl_RotationNumber.f n w) (RotationNumberR w) := by
  unfold impl_RotationNumber.f
  refine Ev.bind (ev_impl_IsWord w hw) ?_
  by_cases h : isWordB w = true
  · have e : RotationNumberR w = ((perL w : Int), 0) := by unfold RotationNumberR; rw [if_pos h]
    rw [e]
    have s1 : 1 ≤ staysL w := by unfold staysL; omega
    have s2 : w.length / staysL w ≤ w.length := Nat.div_le_self _ _
    refine Ev.ite_pos h (Ev.bind (ev_impl_stays w hl hw) (Ev.ite_neg (by omega) ?_))
    have e5 : (w.length : Int) / (staysL w : Int) = ((w.length / staysL w : Nat) : Int) := rfl
    rw [e5]
    rw [wrap_of (by generalize w.length / staysL w = z at s2; omega) (by generalize w.length / staysL w = z at s2; omega), mx_nat, per_stays h]
    exact Ev.now _
  · have e : RotationNumberR w = (0, 1) := by unfold RotationNumberR; rw [if_neg h]
    rw [e]
    exact Ev.ite_neg h (Ev.now _)
theorem FnExactRotationNumber : laws_FnExactRotationNumber.Pure := by
  intro l0 hml0 hsl0 hwl0
  have hfl0 : wfB l0 = true := List.all_eq_true.2 hwl0
  refine Ev.rounds ?_
  unfold laws_FnExactRotationNumber.f
  by_cases hl0 : l0.length ≤ 1048576
  rotate_left
  · exact Ev.ite_pos (by omega) (Ev.now _)
  have S := ev_spec_RotationNumber l0 hl0
  have I := ev_impl_RotationNumber l0 hl0 hfl0
  have Tl0 := ev_toInt64S l0 (by omega)
  have El0 := ev_eq_same l0 (by omega)
  have Ml0 := ev_markInt64S l0 1 (by omega) (by omega)
  repeat (first
    | exact Ev.now _
    | refine Ev.bind Tl0 ?_
    | refine Ev.bind S ?_
    | refine Ev.bind I ?_
    | refine Ev.bind El0 ?_
    | refine Ev.bind Ml0 ?_
    | refine Ev.ite_pos rfl ?_
    | (refine Ev.ite_neg ?_ ?_; focus (first | (simp; done) | (simp; omega) | omega))
    | (apply Ev.step; focus (intro n; first | rw [laws_FnExactRotationNumber.j0])))
end Go.Proofs.Ytaegjapbkkfpdaa.Pure
