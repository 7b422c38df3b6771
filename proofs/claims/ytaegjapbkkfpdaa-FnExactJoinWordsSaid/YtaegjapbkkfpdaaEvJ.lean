/-
  Plain laws of two words. No condition but sizes.
-/
import Derived.Test.YtaegjapbkkfpdaaEvS
import Derived.Test.YtaegjapbkkfpdaaPlainS
import Derived.Test.YtaegjapbkkfpdaaG93
namespace Go.Proofs.Ytaegjapbkkfpdaa.Pure
open Go.RowKit Go.Proofs.Ytaegjapbkkfpdaa.G Go.Proofs.Ytaegjapbkkfpdaa.Plain Go.Proofs.YtaegjapbkkfpdaaW.PrintWords Go.Proofs.YtaegjapbkkfpdaaW.PrintLast

theorem ev_impl_invalid_1 (l : List Int) (hw : wfB l = true) : Ev (fun n => impl_invalid_1.f n l) (!isWordB l) := by
  unfold impl_invalid_1.f
  exact Ev.bind (ev_impl_IsWord l hw) (Ev.now _)
theorem ev_index_invalid (a b : List Int) (ha : wfB a = true) (hb : wfB b = true) : Ev (fun n => slices_IndexFunc_int64_int64_at_impl_invalid_1.f n [a, b]) (if isWordB a = true then (if isWordB b = true then -1 else 1) else 0) := by
  unfold slices_IndexFunc_int64_int64_at_impl_invalid_1.f
  have e1 : wrap64 (0 + 1) = 1 := wrap_of (by omega) (by omega)
  have e2 : wrap64 (1 + 1) = 2 := wrap_of (by omega) (by omega)
  have eL : (([a, b] : List (List Int)).length : Int) = 2 := rfl
  rw [eL]
  refine Ev.step (fun n => by rw [slices_IndexFunc_int64_int64_at_impl_invalid_1.l0]) ?_
  refine Ev.ite_pos (by decide) (Ev.ite_pos (by decide) (Ev.ite_pos (by rw [eL]; decide) (Ev.bind (ev_impl_invalid_1 a ha) ?_)))
  by_cases h : isWordB a = true
  · rw [if_pos h, h, e1]
    refine Ev.ite_neg (by decide) ?_
    refine Ev.step (fun n => by rw [slices_IndexFunc_int64_int64_at_impl_invalid_1.l0]) ?_
    refine Ev.ite_pos (by decide) (Ev.ite_pos (by decide) (Ev.ite_pos (by rw [eL]; decide) (Ev.bind (ev_impl_invalid_1 b hb) ?_)))
    by_cases h2 : isWordB b = true
    · rw [if_pos h2, h2, e2]
      refine Ev.ite_neg (by decide) ?_
      refine Ev.step (fun n => by rw [slices_IndexFunc_int64_int64_at_impl_invalid_1.l0]) ?_
      exact Ev.ite_neg (by decide) (Ev.now _)
    · rw [if_neg h2]
      exact Ev.ite_pos (by simpa using h2) (Ev.now _)
  · rw [if_neg h]
    exact Ev.ite_pos (by simpa using h) (Ev.now _)
theorem ev_impl_invalid (a b : List Int) (ha : wfB a = true) (hb : wfB b = true) : Ev (fun n => impl_invalid.f n [a, b]) (if isWordB a = true ∧ isWordB b = true then 0 else 1) := by
  unfold impl_invalid.f slices_ContainsFunc_int64_int64_at_impl_invalid_1.f
  refine Ev.bind (Ev.bind (ev_index_invalid a b ha hb) (Ev.now _)) ?_
  by_cases h : isWordB a = true
  · by_cases h2 : isWordB b = true
    · have e : (if isWordB a = true ∧ isWordB b = true then (0 : Int) else 1) = 0 := if_pos ⟨h, h2⟩
      rw [if_pos h, if_pos h2, e]
      exact Ev.ite_neg (by simp) (Ev.now _)
    · have e : (if isWordB a = true ∧ isWordB b = true then (0 : Int) else 1) = 1 := if_neg (fun q => h2 q.2)
      rw [if_pos h, if_neg h2, e]
      exact Ev.ite_pos (by simp) (Ev.now _)
  · have e : (if isWordB a = true ∧ isWordB b = true then (0 : Int) else 1) = 1 := if_neg (fun q => h q.1)
    rw [if_neg h, e]
    exact Ev.ite_pos (by simp) (Ev.now _)
theorem normal_idem (l : List Int) : normalL (normalL l) = normalL l := by
  refine (normal_of_alike (normalL l) l (normalL_length l) fun i j hi hj => ?_).1
  rw [normalL_length] at hi hj
  exact normalL_eq_iff hi hj
theorem leastL_zero' {w : List Int} (h : normalL w = w) : leastFrom w w.length 0 w = leastL w := by
  unfold leastL
  cases hl : w.length with
  | zero => rfl
  | succ n =>
    show leastFrom w n 1 (if ltB (rotL w 0) w = true then rotL w 0 else w) = _
    have e : rotL w 0 = w := by unfold rotL; simpa using h
    rw [e, ltB_self]
    rfl
theorem ev_impl_least' (w : List Int) (h : normalL w = w) (hl : w.length ≤ 1048576) (hw : wfB w = true) : Ev (fun n => impl_least.f n w) (leastL w) := by
  unfold impl_least.f
  rw [← leastL_zero' h]
  exact implLeast_loop w hl hw w.length 0 w rfl (by omega) (by omega)
/-- Two words, one behind the other. -/
def joinL (a b : List Int) : List Int := a ++ b.map fun x => wrap64 (x + ((a.length / 2 : Nat) : Int))
theorem joinL_length (a b : List Int) : (joinL a b).length = a.length + b.length := by unfold joinL; rw [List.length_append, List.length_map]
theorem spec_join_loop (a b : List Int) (hla : a.length ≤ 1048576) (hlb : b.length ≤ 1048576) : ∀ (d k : Nat), k ≤ b.length → b.length - k = d → Ev (fun n => spec_l01Join.l0 n a b (joinL a (b.take k)) k) (joinL a b) := by
  intro d
  induction d with
  | zero =>
    intro k hk hd
    refine Ev.step (fun n => by rw [spec_l01Join.l0]) ?_
    refine Ev.ite_neg (by omega) ?_
    rw [List.take_of_length_le (by omega)]
    exact Ev.now _
  | succ d ih =>
    intro k hk hd
    refine Ev.step (fun n => by rw [spec_l01Join.l0]) ?_
    refine Ev.ite_pos (by omega) (Ev.ite_pos (by omega) (Ev.ite_pos (by rw [joinL_length, List.length_take]; omega) ?_))
    have e : joinL a (b.take k) ++ [wrap64 (rd b k + wrap64 ((a.length : Int) / 2))] = joinL a (b.take (k + 1)) := by
      rw [half_wrap (by omega), rd_at (show k < b.length by omega)]
      unfold joinL
      rw [List.append_assoc, List.take_succ_eq_append_getElem (show k < b.length by omega), List.map_append]
      rfl
    rw [e, wrap_of (by omega) (by omega)]
    exact ih (k + 1) (by omega) (by omega)
theorem ev_spec_l01Join (a b : List Int) (hla : a.length ≤ 1048576) (hlb : b.length ≤ 1048576) : Ev (fun n => spec_l01Join.f n a b) (joinL a b) := by
  unfold spec_l01Join.f
  refine Ev.bind (Ev.const (spec_l01Own_f (by omega))) ?_
  have h := spec_join_loop a b hla hlb b.length 0 (by omega) (by omega)
  have e : joinL a (b.take 0) = a := by simp [joinL]
  rw [e] at h
  exact h
theorem impl_join_loop (a b : List Int) (hla : a.length ≤ 1048576) (hlb : b.length ≤ 1048576) : ∀ (d k : Nat), k ≤ b.length → b.length - k = d → Ev (fun n => impl_join.l0 n a (joinL a (b.take k)) b (b.length : Int) k) (joinL a b) := by
  intro d
  induction d with
  | zero =>
    intro k hk hd
    refine Ev.step (fun n => by rw [impl_join.l0]) ?_
    refine Ev.ite_neg (by omega) ?_
    rw [List.take_of_length_le (by omega)]
    exact Ev.now _
  | succ d ih =>
    intro k hk hd
    refine Ev.step (fun n => by rw [impl_join.l0]) ?_
    refine Ev.ite_pos (by omega) (Ev.ite_pos (by omega) (Ev.ite_pos (by omega) (Ev.bind (Ev.const rfl) (Ev.ite_pos (by rw [joinL_length, List.length_take]; omega) ?_))))
    have e : joinL a (b.take k) ++ [wrap64 (rd b k + wrap64 ((a.length : Int) / 2))] = joinL a (b.take (k + 1)) := by
      rw [half_wrap (by omega), rd_at (show k < b.length by omega)]
      unfold joinL
      rw [List.append_assoc, List.take_succ_eq_append_getElem (show k < b.length by omega), List.map_append]
      rfl
    rw [e, wrap_of (x := (k : Int) + 1) (by omega) (by omega)]
    exact ih (k + 1) (by omega) (by omega)
theorem ev_impl_join (a b : List Int) (hla : a.length ≤ 1048576) (hlb : b.length ≤ 1048576) : Ev (fun n => impl_join.f n a b) (joinL a b) := by
  unfold impl_join.f
  refine Ev.bind (Ev.const (slices_Clone_f (by omega))) ?_
  have h := impl_join_loop a b hla hlb b.length 0 (by omega) (by omega)
  have e : joinL a (b.take 0) = a := by simp [joinL]
  rw [e] at h
  exact h
end Go.Proofs.Ytaegjapbkkfpdaa.Pure
