/-
  The given law laws.FnExactWordOfChords returns true for every two lists: the program's WordOfChords answers as the reference's. No condition.
-/
import Derived.Test.YtaegjapbkkfpdaaEvD
import Derived.Test.YtaegjapbkkfpdaaGlWordOfChords
namespace Go.Proofs.Ytaegjapbkkfpdaa.Pure
open Go.RowKit Go.Proofs.Ytaegjapbkkfpdaa.G Go.Proofs.Ytaegjapbkkfpdaa.Plain Go.Proofs.YtaegjapbkkfpdaaW.PrintWords Go.Proofs.YtaegjapbkkfpdaaW.PrintLast

/-- Some numbers below n, each greater than the one ahead. -/
def someB (n : Nat) : List Int → Int → Bool
  | [], _ => true
  | x :: l, last => decide (0 ≤ x ∧ x < (n : Int) ∧ last < x) && someB n l x
/-- What WordOfChords answers. -/
def WordOfChordsR (w s : List Int) : List Int × Int := if isWordB w = true then (if someB (w.length / 2) s (-1) = true then (normalL (w.filter fun x => decide (x ∈ s)), 0) else ([], 2)) else ([], 1)
/-- The number ahead of place k. -/
def ahead (s : List Int) (k : Nat) : Int := if k = 0 then -1 else rd s ((k : Int) - 1)
theorem ahead_succ {s : List Int} {k : Nat} (hk : k < s.length) : ahead s (k + 1) = s[k] := by
  unfold ahead
  rw [if_neg (by omega)]
  have e : ((k + 1 : Nat) : Int) - 1 = (k : Int) := by omega
  rw [e, rd_at hk]
theorem someB_drop {n : Nat} {s : List Int} {k : Nat} (hk : k < s.length) : someB n (s.drop k) (ahead s k) = (decide (0 ≤ s[k] ∧ s[k] < (n : Int) ∧ ahead s k < s[k]) && someB n (s.drop (k + 1)) (ahead s (k + 1))) := by
  rw [List.drop_eq_getElem_cons hk, someB, ahead_succ hk]
/-- The marks of the numbers that have been met. -/
def flags (n : Nat) (l : List Int) : List Bool := (List.range n).map fun (i : Nat) => decide ((i : Int) ∈ l)
theorem flags_length (n : Nat) (l : List Int) : (flags n l).length = n := by simp [flags]
theorem flags_set {n : Nat} {s : List Int} {k : Nat} (hk : k < s.length) (h0 : 0 ≤ s[k]) : (flags n (s.take k)).set s[k].toNat true = flags n (s.take (k + 1)) := by
  apply List.ext_getElem
  · simp [flags]
  · intro i h1 h2
    rw [List.getElem_set]
    simp only [flags, List.getElem_map, List.getElem_range]
    have hm : ((i : Int) ∈ s.take (k + 1)) ↔ ((i : Int) ∈ s.take k ∨ s[k] = (i : Int)) := mem_take_succ hk (i : Int)
    by_cases e : s[k].toNat = i
    · rw [if_pos e]
      symm
      rw [decide_eq_true_iff, hm]
      right; omega
    · rw [if_neg e, decide_eq_decide, hm]
      constructor
      · exact fun h => .inl h
      · rintro (h | h)
        · exact h
        · omega
theorem flags_get {n : Nat} {l : List Int} {x : Int} (h0 : 0 ≤ x) (h1 : x < (n : Int)) : (flags n l).getD x.toNat false = decide (x ∈ l) := by
  unfold flags
  rw [List.getD_eq_getElem?_getD, List.getElem?_map, List.getElem?_range (by omega)]
  have e : ((x.toNat : Nat) : Int) = x := by omega
  simp [e]
theorem spec_some_loop (w s : List Int) (h : isWordB w = true) (hs : s.length ≤ 1048576) : ∀ (d k : Nat), k ≤ s.length → s.length - k = d →
    Ev (fun n => spec_WordOfChords.l0 n w s (flags (w.length / 2) (s.take k)) k) (if someB (w.length / 2) (s.drop k) (ahead s k) = true then (normalL (w.filter fun x => decide (x ∈ s)), 0) else ([], 2)) := by
  have hlen := word_length h
  intro d
  induction d with
  | zero =>
    intro k hk hd
    obtain rfl : k = s.length := by omega
    refine Ev.step (fun n => by rw [spec_WordOfChords.l0]) ?_
    refine Ev.ite_neg (by omega) ?_
    rw [List.drop_length, List.take_length, someB, if_pos rfl]
    have h2 := ev_spec_l01Some w (flags (w.length / 2) s) (by omega) (fun x hx => by rw [flags_length]; exact word_mem h hx)
    have e : (w.filter fun x => (flags (w.length / 2) s).getD x.toNat false) = w.filter fun x => decide (x ∈ s) := List.filter_congr fun x hx => flags_get (word_mem h hx).1 (word_mem h hx).2
    rw [e] at h2
    exact Ev.bind h2 (Ev.now _)
  | succ d ih =>
    intro k hk hd
    have hlt : k < s.length := by omega
    refine Ev.step (fun n => by rw [spec_WordOfChords.l0]) ?_
    rw [rd_at hlt, flags_length, someB_drop hlt]
    refine Ev.ite_pos (by omega) (Ev.ite_pos (by omega) (Ev.bind (Ev.const (spec_l01In_f _ _ _)) ?_))
    rw [wrap_of (x := ((w.length / 2 : Nat) : Int) - 1) (by omega) (by omega), wrap_of (x := (k : Int) + 1) (by omega) (by omega)]
    have hn := ih (k + 1) (by omega) (by omega)
    by_cases hc : 0 ≤ s[k] ∧ s[k] ≤ ((w.length / 2 : Nat) : Int) - 1
    · rw [decide_eq_true hc]
      refine Ev.ite_pos rfl ?_
      rw [← flags_set hlt hc.1] at hn
      by_cases hk0 : k = 0
      · refine Ev.ite_neg (by omega) (Ev.ite_pos (by omega) (Ev.ite_pos (by omega) ?_))
        have e : decide (0 ≤ s[k] ∧ s[k] < ((w.length / 2 : Nat) : Int) ∧ ahead s k < s[k]) = true := by
          rw [decide_eq_true_iff]
          refine ⟨hc.1, by omega, ?_⟩
          unfold ahead; rw [if_pos hk0]; omega
        rw [e, Bool.true_and]
        exact hn
      · refine Ev.ite_pos (by omega) ?_
        rw [wrap_of (x := (k : Int) - 1) (by omega) (by omega)]
        refine Ev.ite_pos (by omega) (Ev.ite_pos (by omega) ?_)
        have ea : ahead s k = rd s ((k : Int) - 1) := by unfold ahead; rw [if_neg hk0]
        rw [← ea]
        by_cases hle : s[k] ≤ ahead s k
        · refine Ev.ite_pos hle ?_
          have e : decide (0 ≤ s[k] ∧ s[k] < ((w.length / 2 : Nat) : Int) ∧ ahead s k < s[k]) = false := by
            rw [decide_eq_false_iff_not]; omega
          rw [e, Bool.false_and]
          exact Ev.now _
        · refine Ev.ite_neg hle (Ev.ite_pos (by omega) (Ev.ite_pos (by omega) ?_))
          have e : decide (0 ≤ s[k] ∧ s[k] < ((w.length / 2 : Nat) : Int) ∧ ahead s k < s[k]) = true := by
            rw [decide_eq_true_iff]; omega
          rw [e, Bool.true_and]
          exact hn
    · rw [decide_eq_false hc]
      refine Ev.ite_neg (by decide) ?_
      have e : decide (0 ≤ s[k] ∧ s[k] < ((w.length / 2 : Nat) : Int) ∧ ahead s k < s[k]) = false := by
        rw [decide_eq_false_iff_not]; omega
      rw [e, Bool.false_and]
      exact Ev.now _
theorem ev_spec_WordOfChords (w s : List Int) (hl : w.length ≤ 1048576) (hs : s.length ≤ 1048576) : Ev (fun n => spec_WordOfChords.f n w s) (WordOfChordsR w s) := by
  unfold spec_WordOfChords.f WordOfChordsR
  refine Ev.bind (ev_spec_l01Is w) ?_
  by_cases h : isWordB w = true
  · rw [if_pos h, half_wrap (by omega)]
    refine Ev.ite_pos h (Ev.ite_pos (by omega) (Ev.ite_pos (by omega) ?_))
    have h2 := spec_some_loop w s h hs s.length 0 (by omega) (by omega)
    have e : flags (w.length / 2) (s.take 0) = List.replicate (w.length / 2) false := by
      rw [List.take_zero]
      apply List.ext_getElem
      · simp [flags]
      · intro i h1 h2; simp [flags]
    rw [e, List.drop_zero] at h2
    have e2 : ahead s 0 = -1 := rfl
    rw [e2] at h2
    rw [Int.toNat_natCast]
    exact h2
  · rw [if_neg h]
    exact Ev.ite_neg h (Ev.now _)
theorem impl_some_loop (w s : List Int) (hw : w.length ≤ 1048576) (hs : s.length ≤ 1048576) : ∀ (d k : Nat), k ≤ s.length → s.length - k = d →
    Ev (fun n => impl_someOk.l0 n w s s (s.length : Int) k) (someB (w.length / 2) (s.drop k) (ahead s k)) := by
  intro d
  induction d with
  | zero =>
    intro k hk hd
    obtain rfl : k = s.length := by omega
    refine Ev.step (fun n => by rw [impl_someOk.l0]) ?_
    refine Ev.ite_neg (by omega) ?_
    rw [List.drop_length, someB]
    exact Ev.now _
  | succ d ih =>
    intro k hk hd
    have hlt : k < s.length := by omega
    refine Ev.step (fun n => by rw [impl_someOk.l0]) ?_
    rw [rd_at hlt, someB_drop hlt]
    refine Ev.ite_pos (by omega) (Ev.ite_pos (by omega) (Ev.ite_pos (by omega) (Ev.bind (Ev.const (impl_isChord_f (by omega) _)) ?_)))
    rw [wrap_of (x := (k : Int) + 1) (by omega) (by omega)]
    have hn := ih (k + 1) (by omega) (by omega)
    by_cases hc : 0 ≤ s[k] ∧ s[k] ≤ ((w.length / 2 : Nat) : Int) - 1
    · rw [decide_eq_true hc]
      refine Ev.ite_pos rfl ?_
      by_cases hk0 : k = 0
      · refine Ev.ite_neg (by omega) ?_
        have e : decide (0 ≤ s[k] ∧ s[k] < ((w.length / 2 : Nat) : Int) ∧ ahead s k < s[k]) = true := by
          rw [decide_eq_true_iff]
          refine ⟨hc.1, by omega, ?_⟩
          unfold ahead; rw [if_pos hk0]; omega
        rw [e, Bool.true_and]
        exact hn
      · refine Ev.ite_pos (by omega) ?_
        rw [wrap_of (x := (k : Int) - 1) (by omega) (by omega)]
        refine Ev.ite_pos (by omega) (Ev.ite_pos (by omega) ?_)
        have ea : ahead s k = rd s ((k : Int) - 1) := by unfold ahead; rw [if_neg hk0]
        rw [← ea]
        by_cases hle : s[k] ≤ ahead s k
        · refine Ev.ite_pos hle ?_
          have e : decide (0 ≤ s[k] ∧ s[k] < ((w.length / 2 : Nat) : Int) ∧ ahead s k < s[k]) = false := by
            rw [decide_eq_false_iff_not]; omega
          rw [e, Bool.false_and]
          exact Ev.now _
        · refine Ev.ite_neg hle ?_
          have e : decide (0 ≤ s[k] ∧ s[k] < ((w.length / 2 : Nat) : Int) ∧ ahead s k < s[k]) = true := by
            rw [decide_eq_true_iff]; omega
          rw [e, Bool.true_and]
          exact hn
    · rw [decide_eq_false hc]
      refine Ev.ite_neg (by decide) ?_
      have e : decide (0 ≤ s[k] ∧ s[k] < ((w.length / 2 : Nat) : Int) ∧ ahead s k < s[k]) = false := by
        rw [decide_eq_false_iff_not]; omega
      rw [e, Bool.false_and]
      exact Ev.now _
theorem ev_impl_someOk (w s : List Int) (hw : w.length ≤ 1048576) (hs : s.length ≤ 1048576) : Ev (fun n => impl_someOk.f n w s) (someB (w.length / 2) s (-1)) := by
  unfold impl_someOk.f
  have h2 := impl_some_loop w s hw hs s.length 0 (by omega) (by omega)
  rw [List.drop_zero] at h2
  exact h2
theorem ev_slices_Contains (l : List Int) (x : Int) (hl : l.length ≤ 9223372036854775806) : Ev (fun n => slices_Contains_int64_int64.f n l x) (decide (x ∈ l)) := by
  unfold slices_Contains_int64_int64.f
  refine Ev.bind (ev_slices_Index l x hl) (Ev.const ?_)
  by_cases h : x ∈ l
  · rw [if_pos h]; simp [h]
  · rw [if_neg h]; simp [h]
theorem rounds_mem {p : Nat → Int → Prop} : ∀ l : List Int, (∀ x ∈ l, ∃ K, ∀ k, K ≤ k → p k x) → ∃ K, ∀ k, K ≤ k → ∀ x ∈ l, p k x
  | [], _ => ⟨0, fun _ _ x hx => by simp at hx⟩
  | y :: l, h => by
    obtain ⟨K, hK⟩ := rounds_mem l (fun x hx => h x (List.mem_cons_of_mem _ hx))
    obtain ⟨K2, hK2⟩ := h y List.mem_cons_self
    refine ⟨max K K2, fun k hk x hx => ?_⟩
    rcases List.mem_cons.1 hx with rfl | hx
    · exact hK2 k (by omega)
    · exact hK k (by omega) x hx
theorem ev_impl_WordOfChords (w s : List Int) (hl : w.length ≤ 1048576) (hs : s.length ≤ 1048576) (hw : wfB w = true) (_ : wfB s = true) : Ev (fun n => impl_WordOfChords.f n w s) (WordOfChordsR w s) := by
  unfold impl_WordOfChords.f WordOfChordsR
  refine Ev.bind (ev_impl_IsWord w hw) ?_
  by_cases h : isWordB w = true
  · rw [if_pos h]
    refine Ev.ite_pos h (Ev.bind (ev_impl_someOk w s hl hs) ?_)
    by_cases h2 : someB (w.length / 2) s (-1) = true
    · rw [if_pos h2]
      refine Ev.ite_pos h2 ?_
      obtain ⟨K, hK⟩ := rounds_mem (p := fun k x => slices_Contains_int64_int64.f k s x = some (decide (x ∈ s))) w (fun x _ => ev_slices_Contains s x (by omega))
      refine ⟨K, fun k hk => ?_⟩
      have hok : hasOk k w s = true := List.all_eq_true.2 fun x hx => by rw [hK k hk x hx]; rfl
      show (if hasOk k w s = true ∧ (wfB w = true ∧ w.length ≤ 1048576) then _ else _) = _
      rw [if_pos ⟨hok, hw, hl⟩]
      have e : w.filter (hasP k s) = w.filter fun x => decide (x ∈ s) := List.filter_congr fun x hx => by
        unfold hasP
        rw [hK k hk x hx]; rfl
      rw [e]
    · rw [if_neg h2]
      exact Ev.ite_neg h2 (Ev.now _)
  · rw [if_neg h]
    exact Ev.ite_neg h (Ev.now _)
theorem WordOfChordsR_le (w s : List Int) (_ : w.length ≤ 1048576) (_ : s.length ≤ 1048576) : (WordOfChordsR w s).1.length ≤ 12 := by
  unfold WordOfChordsR
  split
  · rename_i h
    split
    · exact filter_le12 h _
    · simp
  · simp
theorem FnExactWordOfChords : laws_FnExactWordOfChords.Pure := by
  intro l0 l1 hml0 hsl0 hwl0 hml1 hsl1 hwl1
  have hfl0 : wfB l0 = true := List.all_eq_true.2 hwl0
  have hfl1 : wfB l1 = true := List.all_eq_true.2 hwl1
  refine Ev.rounds ?_
  unfold laws_FnExactWordOfChords.f
  by_cases hl0 : l0.length ≤ 1048576
  rotate_left
  · exact Ev.ite_pos (by omega) (Ev.now _)
  by_cases hl1 : l1.length ≤ 1048576
  rotate_left
  · exact Ev.ite_neg (by omega) (Ev.ite_pos (by omega) (Ev.now _))
  have hr := WordOfChordsR_le l0 l1 hl0 hl1
  have S := ev_spec_WordOfChords l0 l1 hl0 hl1
  have I := ev_impl_WordOfChords l0 l1 hl0 hl1 hfl0 hfl1
  have Tl0 := ev_toInt64S l0 (by omega)
  have El0 := ev_eq_same l0 (by omega)
  have Ml0 := ev_markInt64S l0 1 (by omega) (by omega)
  have Tl1 := ev_toInt64S l1 (by omega)
  have El1 := ev_eq_same l1 (by omega)
  have Ml1 := ev_markInt64S l1 1 (by omega) (by omega)
  have ER := ev_eq_same (WordOfChordsR l0 l1).1 (by omega)
  have MR := ev_markInt64S (WordOfChordsR l0 l1).1 1 (by omega) (by omega)
  have HR := ev_heldInt64S (WordOfChordsR l0 l1).1.length 1 (by omega) (by omega)
  have MQ := ev_markInt64S l1 (1 + (l0.length : Int)) (by omega) (by omega)
  repeat (first
    | exact Ev.now _
    | refine Ev.bind Tl0 ?_
    | refine Ev.bind Tl1 ?_
    | refine Ev.bind S ?_
    | refine Ev.bind I ?_
    | refine Ev.bind El0 ?_
    | refine Ev.bind Ml0 ?_
    | refine Ev.bind El1 ?_
    | refine Ev.bind Ml1 ?_
    | refine Ev.bind ER ?_
    | refine Ev.bind MR ?_
    | refine Ev.bind HR ?_
    | refine Ev.bind MQ ?_
    | refine Ev.ite_pos rfl ?_
    | (refine Ev.ite_neg ?_ ?_; focus (first | (simp; done) | (simp; omega) | omega))
    | (apply Ev.step; focus (intro n; first | rw [laws_FnExactWordOfChords.j0] | rw [laws_FnExactWordOfChords.j1] | rw [laws_FnExactWordOfChords.j2])))
end Go.Proofs.Ytaegjapbkkfpdaa.Pure
