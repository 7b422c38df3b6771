/-
  The given law laws.FnExactCirclesOf returns true for every two lists: the program's CirclesOf answers as the reference's. No condition.
-/
import Derived.Test.YtckmncebedhgeaaEvC
import Derived.Test.YtckmncebedhgeaaEvI
import Derived.Test.YtckmncebedhgeaaGlCirclesOf
namespace Go.Proofs.Ytckmncebedhgeaa.Pure
open Go.RowKit Go.Proofs.Ytckmncebedhgeaa.G Go.Proofs.Ytckmncebedhgeaa.Plain Go.Proofs.YtckmncebedhgeaaW.PrintWords Go.Proofs.YtckmncebedhgeaaW.PrintLast

/-- Some numbers below n, each greater than the one ahead. -/
def someB (n : Nat) : List Int → Int → Bool
  | [], _ => true
  | x :: l, last => decide (0 ≤ x ∧ x < (n : Int) ∧ last < x) && someB n l x
/-- The number ahead of place k. -/
def ahead (s : List Int) (k : Nat) : Int := if k = 0 then -1 else rd s ((k : Int) - 1)
theorem ahead_succ {s : List Int} {k : Nat} (hk : k < s.length) : ahead s (k + 1) = s[k] := by
  unfold ahead
  rw [if_neg (by omega)]
  have e : ((k + 1 : Nat) : Int) - 1 = (k : Int) := by omega
  rw [e, rd_at hk]
theorem someB_drop {n : Nat} {s : List Int} {k : Nat} (hk : k < s.length) : someB n (s.drop k) (ahead s k) = (decide (0 ≤ s[k] ∧ s[k] < (n : Int) ∧ ahead s k < s[k]) && someB n (s.drop (k + 1)) (ahead s (k + 1))) := by
  rw [List.drop_eq_getElem_cons hk, someB, ahead_succ hk]
/-- The marks of the numbers that have been met. -/
def flags (n : Nat) (l : List Int) : List Bool := (List.range n).map fun (i : Nat) => decide ((i : Int) ∈ l)
theorem flags_length (n : Nat) (l : List Int) : (flags n l).length = n := by simp [flags]
theorem flags_set {n : Nat} {s : List Int} {k : Nat} (hk : k < s.length) (h0 : 0 ≤ s[k]) : (flags n (s.take k)).set s[k].toNat true = flags n (s.take (k + 1)) := by
  apply List.ext_getElem
  · simp [flags]
  · intro i h1 h2
    rw [List.getElem_set]
    simp only [flags, List.getElem_map, List.getElem_range]
    have hm : ((i : Int) ∈ s.take (k + 1)) ↔ ((i : Int) ∈ s.take k ∨ s[k] = (i : Int)) := mem_take_succ hk (i : Int)
    by_cases e : s[k].toNat = i
    · rw [if_pos e]
      symm
      rw [decide_eq_true_iff, hm]
      right; omega
    · rw [if_neg e, decide_eq_decide, hm]
      constructor
      · exact fun h => .inl h
      · rintro (h | h)
        · exact h
        · omega
theorem flags_get {n : Nat} {l : List Int} {x : Int} (h0 : 0 ≤ x) (h1 : x < (n : Int)) : (flags n l).getD x.toNat false = decide (x ∈ l) := by
  unfold flags
  rw [List.getD_eq_getElem?_getD, List.getElem?_map, List.getElem?_range (by omega)]
  have e : ((x.toNat : Nat) : Int) = x := by omega
  simp [e]
theorem spec_some_loop (w s : List Int) (h : isWordB w = true) (hs : s.length ≤ 1048576) : ∀ (d k : Nat), k ≤ s.length → s.length - k = d →
    Ev (fun n => spec_CirclesOf.l0 n w s (flags (w.length / 2) (s.take k)) k) (if someB (w.length / 2) (s.drop k) (ahead s k) = true then (((max (circN w fun x => decide (x ∈ s)) 1 : Nat) : Int), 0) else (0, 2)) := by
  have hlen := word_length h
  intro d
  induction d with
  | zero =>
    intro k hk hd
    obtain rfl : k = s.length := by omega
    refine Ev.step (fun n => by rw [spec_CirclesOf.l0]) ?_
    refine Ev.ite_neg (by omega) ?_
    rw [List.drop_length, List.take_length, someB, if_pos rfl]
    have h2 := ev_spec_l05Circles w h (flags (w.length / 2) s) (flags_length _ _) (fun x => decide (x ∈ s)) (fun i hi => by
      have := flags_get (n := w.length / 2) (l := s) (x := (i : Int)) (by omega) (by omega)
      rw [Int.toNat_natCast] at this
      rw [← this, List.getD_eq_getElem?_getD, List.getD_eq_getElem?_getD, List.getElem?_eq_getElem (by rw [flags_length]; exact hi)]
      rfl)
    exact Ev.bind h2 (Ev.now _)
  | succ d ih =>
    intro k hk hd
    have hlt : k < s.length := by omega
    refine Ev.step (fun n => by rw [spec_CirclesOf.l0]) ?_
    rw [rd_at hlt, flags_length, someB_drop hlt]
    refine Ev.ite_pos (by omega) (Ev.ite_pos (by omega) (Ev.bind (Ev.const (spec_l01In_f _ _ _)) ?_))
    rw [wrap_of (x := ((w.length / 2 : Nat) : Int) - 1) (by omega) (by omega), wrap_of (x := (k : Int) + 1) (by omega) (by omega)]
    have hn := ih (k + 1) (by omega) (by omega)
    by_cases hc : 0 ≤ s[k] ∧ s[k] ≤ ((w.length / 2 : Nat) : Int) - 1
    · rw [decide_eq_true hc]
      refine Ev.ite_pos rfl ?_
      rw [← flags_set hlt hc.1] at hn
      by_cases hk0 : k = 0
      · refine Ev.ite_neg (by omega) (Ev.ite_pos (by omega) (Ev.ite_pos (by omega) ?_))
        have e : decide (0 ≤ s[k] ∧ s[k] < ((w.length / 2 : Nat) : Int) ∧ ahead s k < s[k]) = true := by
          rw [decide_eq_true_iff]
          refine ⟨hc.1, by omega, ?_⟩
          unfold ahead; rw [if_pos hk0]; omega
        rw [e, Bool.true_and]
        exact hn
      · refine Ev.ite_pos (by omega) ?_
        rw [wrap_of (x := (k : Int) - 1) (by omega) (by omega)]
        refine Ev.ite_pos (by omega) (Ev.ite_pos (by omega) ?_)
        have ea : ahead s k = rd s ((k : Int) - 1) := by unfold ahead; rw [if_neg hk0]
        rw [← ea]
        by_cases hle : s[k] ≤ ahead s k
        · refine Ev.ite_pos hle ?_
          have e : decide (0 ≤ s[k] ∧ s[k] < ((w.length / 2 : Nat) : Int) ∧ ahead s k < s[k]) = false := by
            rw [decide_eq_false_iff_not]; omega
          rw [e, Bool.false_and]
          exact Ev.now _
        · refine Ev.ite_neg hle (Ev.ite_pos (by omega) (Ev.ite_pos (by omega) ?_))
          have e : decide (0 ≤ s[k] ∧ s[k] < ((w.length / 2 : Nat) : Int) ∧ ahead s k < s[k]) = true := by
            rw [decide_eq_true_iff]; omega
          rw [e, Bool.true_and]
          exact hn
    · rw [decide_eq_false hc]
      refine Ev.ite_neg (by decide) ?_
      have e : decide (0 ≤ s[k] ∧ s[k] < ((w.length / 2 : Nat) : Int) ∧ ahead s k < s[k]) = false := by
        rw [decide_eq_false_iff_not]; omega
      rw [e, Bool.false_and]
      exact Ev.now _
theorem impl_some_loop (w s : List Int) (hw : w.length ≤ 1048576) (hs : s.length ≤ 1048576) : ∀ (d k : Nat), k ≤ s.length → s.length - k = d →
    Ev (fun n => impl_someOk.l0 n w s s (s.length : Int) k) (someB (w.length / 2) (s.drop k) (ahead s k)) := by
  intro d
  induction d with
  | zero =>
    intro k hk hd
    obtain rfl : k = s.length := by omega
    refine Ev.step (fun n => by rw [impl_someOk.l0]) ?_
    refine Ev.ite_neg (by omega) ?_
    rw [List.drop_length, someB]
    exact Ev.now _
  | succ d ih =>
    intro k hk hd
    have hlt : k < s.length := by omega
    refine Ev.step (fun n => by rw [impl_someOk.l0]) ?_
    rw [rd_at hlt, someB_drop hlt]
    refine Ev.ite_pos (by omega) (Ev.ite_pos (by omega) (Ev.ite_pos (by omega) (Ev.bind (Ev.const (impl_isChord_f (by omega) _)) ?_)))
    rw [wrap_of (x := (k : Int) + 1) (by omega) (by omega)]
    have hn := ih (k + 1) (by omega) (by omega)
    by_cases hc : 0 ≤ s[k] ∧ s[k] ≤ ((w.length / 2 : Nat) : Int) - 1
    · rw [decide_eq_true hc]
      refine Ev.ite_pos rfl ?_
      by_cases hk0 : k = 0
      · refine Ev.ite_neg (by omega) ?_
        have e : decide (0 ≤ s[k] ∧ s[k] < ((w.length / 2 : Nat) : Int) ∧ ahead s k < s[k]) = true := by
          rw [decide_eq_true_iff]
          refine ⟨hc.1, by omega, ?_⟩
          unfold ahead; rw [if_pos hk0]; omega
        rw [e, Bool.true_and]
        exact hn
      · refine Ev.ite_pos (by omega) ?_
        rw [wrap_of (x := (k : Int) - 1) (by omega) (by omega)]
        refine Ev.ite_pos (by omega) (Ev.ite_pos (by omega) ?_)
        have ea : ahead s k = rd s ((k : Int) - 1) := by unfold ahead; rw [if_neg hk0]
        rw [← ea]
        by_cases hle : s[k] ≤ ahead s k
        · refine Ev.ite_pos hle ?_
          have e : decide (0 ≤ s[k] ∧ s[k] < ((w.length / 2 : Nat) : Int) ∧ ahead s k < s[k]) = false := by
            rw [decide_eq_false_iff_not]; omega
          rw [e, Bool.false_and]
          exact Ev.now _
        · refine Ev.ite_neg hle ?_
          have e : decide (0 ≤ s[k] ∧ s[k] < ((w.length / 2 : Nat) : Int) ∧ ahead s k < s[k]) = true := by
            rw [decide_eq_true_iff]; omega
          rw [e, Bool.true_and]
          exact hn
    · rw [decide_eq_false hc]
      refine Ev.ite_neg (by decide) ?_
      have e : decide (0 ≤ s[k] ∧ s[k] < ((w.length / 2 : Nat) : Int) ∧ ahead s k < s[k]) = false := by
        rw [decide_eq_false_iff_not]; omega
      rw [e, Bool.false_and]
      exact Ev.now _
theorem ev_impl_someOk (w s : List Int) (hw : w.length ≤ 1048576) (hs : s.length ≤ 1048576) : Ev (fun n => impl_someOk.f n w s) (someB (w.length / 2) s (-1)) := by
  unfold impl_someOk.f
  have h2 := impl_some_loop w s hw hs s.length 0 (by omega) (by omega)
  rw [List.drop_zero] at h2
  exact h2
/-- What CirclesOf answers. -/
def CirclesOfR (w s : List Int) : Int × Int := if isWordB w = true then (if someB (w.length / 2) s (-1) = true then (((max (circN w fun x => decide (x ∈ s)) 1 : Nat) : Int), 0) else (0, 2)) else (0, 1)
theorem ev_spec_CirclesOf (w s : List Int) (hl : w.length ≤ 1048576) (hs : s.length ≤ 1048576) : Ev (fun n => spec_CirclesOf.f n w s) (CirclesOfR w s) := by
  unfold spec_CirclesOf.f CirclesOfR
  refine Ev.bind (ev_spec_l01Is w) ?_
  by_cases h : isWordB w = true
  · rw [if_pos h]
    refine Ev.ite_pos h ?_
    have en : spec_l05None.f w = some (List.replicate (w.length / 2) false) := by
      unfold spec_l05None.f
      rw [half_wrap (by omega), if_pos (by omega), if_pos (by omega), Int.toNat_natCast]
    refine Ev.bind (Ev.const en) ?_
    have h2 := spec_some_loop w s h hs s.length 0 (by omega) (by omega)
    have e : flags (w.length / 2) (s.take 0) = List.replicate (w.length / 2) false := by
      rw [List.take_zero]
      apply List.ext_getElem
      · simp [flags]
      · intro i h1 h2; simp [flags]
    rw [e, List.drop_zero] at h2
    have e2 : ahead s 0 = -1 := rfl
    rw [e2] at h2
    exact h2
  · rw [if_neg h]
    exact Ev.ite_neg h (Ev.now _)
theorem ev_impl_CirclesOf (w s : List Int) (hl : w.length ≤ 1048576) (hs : s.length ≤ 1048576) (hw : wfB w = true) (_ : wfB s = true) : Ev (fun n => impl_CirclesOf.f n w s) (CirclesOfR w s) := by
  unfold impl_CirclesOf.f CirclesOfR
  refine Ev.bind (ev_impl_IsWord w hw) ?_
  by_cases h : isWordB w = true
  · rw [if_pos h]
    refine Ev.ite_pos h (Ev.bind (ev_impl_someOk w s hl hs) ?_)
    by_cases h2 : someB (w.length / 2) s (-1) = true
    · rw [if_pos h2]
      refine Ev.ite_pos h2 ?_
      exact Ev.bind (ev_impl_circles w h (fun n x => slices_Contains_int64_int64.f n s x) (fun x => decide (x ∈ s)) (fun i _ => ev_slices_ContainsI s (i : Int) (by omega))) (Ev.now _)
    · rw [if_neg h2]
      exact Ev.ite_neg h2 (Ev.now _)
  · rw [if_neg h]
    exact Ev.ite_neg h (Ev.now _)
theorem FnExactCirclesOf : laws_FnExactCirclesOf.Pure := by
  intro l0 l1 hml0 hsl0 hwl0 hml1 hsl1 hwl1
  have hfl0 : wfB l0 = true := List.all_eq_true.2 hwl0
  have hfl1 : wfB l1 = true := List.all_eq_true.2 hwl1
  refine Ev.rounds ?_
  unfold laws_FnExactCirclesOf.f
  by_cases hl0 : l0.length ≤ 1048576
  rotate_left
  · exact Ev.ite_pos (by omega) (Ev.now _)
  by_cases hl1 : l1.length ≤ 1048576
  rotate_left
  · exact Ev.ite_neg (by omega) (Ev.ite_pos (by omega) (Ev.now _))
  have S := ev_spec_CirclesOf l0 l1 hl0 hl1
  have I := ev_impl_CirclesOf l0 l1 hl0 hl1 hfl0 hfl1
  have Tl0 := ev_toInt64S l0 (by omega)
  have El0 := ev_eq_same l0 (by omega)
  have Ml0 := ev_markInt64S l0 1 (by omega) (by omega)
  have Tl1 := ev_toInt64S l1 (by omega)
  have El1 := ev_eq_same l1 (by omega)
  have Ml1 := ev_markInt64S l1 1 (by omega) (by omega)
  have MQ := ev_markInt64S l1 (1 + (l0.length : Int)) (by omega) (by omega)
  repeat (first
    | exact Ev.now _
    | refine Ev.bind Tl0 ?_
    | refine Ev.bind Tl1 ?_
    | refine Ev.bind S ?_
    | refine Ev.bind I ?_
    | refine Ev.bind El0 ?_
    | refine Ev.bind Ml0 ?_
    | refine Ev.bind El1 ?_
    | refine Ev.bind Ml1 ?_
    | refine Ev.bind MQ ?_
    | refine Ev.ite_pos rfl ?_
    | (refine Ev.ite_neg ?_ ?_; focus (first | (simp; done) | (simp; omega) | omega))
    | (apply Ev.step; focus (intro n; first | rw [laws_FnExactCirclesOf.j0])))
end Go.Proofs.Ytckmncebedhgeaa.Pure
