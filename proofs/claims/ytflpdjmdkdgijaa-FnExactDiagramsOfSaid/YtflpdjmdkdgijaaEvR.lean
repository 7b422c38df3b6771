/-
  Plain laws of rotations and least rotations. No condition but sizes.
-/
import Derived.Test.YtflpdjmdkdgijaaEvW
import Derived.Test.YtflpdjmdkdgijaaPlainR
import Derived.Test.YtflpdjmdkdgijaaGgT
import Derived.Test.YtflpdjmdkdgijaaGgK
namespace Go.Proofs.Ytflpdjmdkdgijaa.Pure
open Go.RowKit Go.Proofs.Ytflpdjmdkdgijaa.G Go.Proofs.Ytflpdjmdkdgijaa.Plain Go.Proofs.YtflpdjmdkdgijaaW.PrintWords Go.Proofs.YtflpdjmdkdgijaaW.PrintLast

theorem spec_l01Own_f {l : List Int} (h : l.length < 17592186044416) : spec_l01Own.f l = some l := by
  unfold spec_l01Own.f
  simp only [Option.bind_some]
  rw [if_pos (by simpa using h)]
  rfl
theorem ev_spec_l01Rotate (w : List Int) (k : Nat) (hk : k ≤ w.length) (hl : w.length ≤ 1048576) : Ev (fun n => spec_l01Rotate.f n w k) (rotL w k) := by
  unfold spec_l01Rotate.f
  refine Ev.ite_pos (by omega) (Ev.ite_pos (by omega) ?_)
  rw [Int.toNat_natCast]
  refine Ev.bind (Ev.const (spec_l01Own_f (by rw [List.length_drop]; omega))) (Ev.ite_pos (by rw [List.length_drop, List.length_take]; omega) ?_)
  exact Ev.bind (ev_spec_l01Normal _ (by rw [List.length_append, List.length_drop, List.length_take]; omega)) (Ev.now _)
theorem impl_rotated_f (w : List Int) (k : Nat) (hk : k ≤ w.length) (hl : w.length ≤ 1048576) (hw : wfB w = true) : impl_rotated.f w k = some (rotL w k) := by
  unfold impl_rotated.f
  rw [if_pos (by omega), if_pos (by omega), Int.toNat_natCast]
  have h1 : slices_Concat_int64_int64.f [w.drop k, w.take k] = some (w.drop k ++ w.take k) := by
    unfold slices_Concat_int64_int64.f
    have e : [w.drop k, w.take k].flatten = w.drop k ++ w.take k := by simp only [List.flatten_cons, List.flatten_nil, List.append_nil]
    rw [e, if_pos (by rw [List.length_append, List.length_drop, List.length_take]; omega)]
  rw [h1]
  simp only [Option.bind_some]
  rw [impl_normal_f (wfB_rot hw k) (by rw [List.length_append, List.length_drop, List.length_take]; omega)]
  rfl
set_option linter.unusedVariables false
theorem before_loop (a b : List Int) (hl : a.length ≤ 1048576) (he : a.length = b.length) : ∀ (d k : Nat), k ≤ a.length → a.length - k = d → Ev (fun n => spec_l01Before.l0 n a b k) (ltB (a.drop k) (b.drop k)) := by
  intro d
  induction d with
  | zero =>
    intro k hk hd
    have e : k = a.length := by omega
    subst e
    refine Ev.step (fun n => by rw [spec_l01Before.l0]) ?_
    refine Ev.ite_neg (by omega) ?_
    rw [List.drop_length]
    exact Ev.const rfl
  | succ d ih =>
    intro k hk hd
    refine Ev.step (fun n => by rw [spec_l01Before.l0]) ?_
    refine Ev.ite_pos (by omega) (Ev.ite_pos (by omega) (Ev.ite_pos (by omega) ?_))
    rw [rd_at (show k < a.length by omega), rd_at (show k < b.length by omega), wrap_of (by omega) (by omega)]
    have h := ih (k + 1) (by omega) (by omega)
    have ha := List.drop_eq_getElem_cons (show k < a.length by omega)
    have hb := List.drop_eq_getElem_cons (show k < b.length by omega)
    rw [ha, hb]
    unfold ltB
    by_cases e : a[k] = b[k]
    · rw [if_pos e]
      exact Ev.ite_pos e h
    · rw [if_neg e]
      exact Ev.ite_neg e (Ev.now _)
theorem ev_spec_l01Before (a b : List Int) (hl : a.length ≤ 1048576) (he : a.length = b.length) : Ev (fun n => spec_l01Before.f n a b) (ltB a b) := by
  unfold spec_l01Before.f
  have h := before_loop a b hl he a.length 0 (by omega) (by omega)
  exact Ev.ite_pos (by omega) (by simpa using h)
theorem cmp_Compare_f (x y : Int) : cmp_Compare_int64.f x y = some (if x < y then -1 else if x > y then 1 else 0) := by
  unfold cmp_Compare_int64.f cmp_isNaN_int64.f
  simp
  split
  · rfl
  · split <;> rfl
theorem compare_loop (a b : List Int) (hl : a.length ≤ 1048576) (hm : b.length ≤ 1048576) : ∀ (d k : Nat), k ≤ a.length → k ≤ b.length → a.length - k = d → Ev (fun n => slices_Compare_int64_int64.l0 n a b a (a.length : Int) k) (cmpI (a.drop k) (b.drop k)) := by
  intro d
  induction d with
  | zero =>
    intro k hk hk2 hd
    have e : k = a.length := by omega
    subst e
    refine Ev.step (fun n => by rw [slices_Compare_int64_int64.l0]) ?_
    refine Ev.ite_neg (by omega) ?_
    rw [List.drop_length]
    by_cases h : a.length < b.length
    · have hb := List.drop_eq_getElem_cons h
      rw [hb]
      exact Ev.ite_pos (by omega) (Ev.const rfl)
    · have hb : b.drop a.length = [] := List.drop_eq_nil_of_le (by omega)
      rw [hb]
      exact Ev.ite_neg (by omega) (Ev.const rfl)
  | succ d ih =>
    intro k hk hk2 hd
    refine Ev.step (fun n => by rw [slices_Compare_int64_int64.l0]) ?_
    refine Ev.ite_pos (by omega) (Ev.ite_pos (by omega) (Ev.ite_pos (by omega) ?_))
    have ha := List.drop_eq_getElem_cons (show k < a.length by omega)
    by_cases h : k < b.length
    · have hb := List.drop_eq_getElem_cons h
      refine Ev.ite_neg (by omega) (Ev.ite_pos (by omega) ?_)
      rw [rd_at (show k < a.length by omega), rd_at h, wrap_of (by omega) (by omega), ha, hb]
      have h2 := ih (k + 1) (by omega) (by omega) (by omega)
      have hc := cmp_Compare_f a[k] b[k]
      have hs : cmpI (a[k] :: a.drop (k + 1)) (b[k] :: b.drop (k + 1)) = if a[k] < b[k] then -1 else if a[k] > b[k] then 1 else cmpI (a.drop (k + 1)) (b.drop (k + 1)) := rfl
      rw [hs]
      by_cases l : a[k] < b[k]
      · rw [if_pos l] at hc ⊢
        exact Ev.bind (Ev.const hc) (Ev.ite_neg (by decide) (Ev.now _))
      · by_cases g : a[k] > b[k]
        · rw [if_neg l, if_pos g] at hc ⊢
          exact Ev.bind (Ev.const hc) (Ev.ite_neg (by decide) (Ev.now _))
        · rw [if_neg l, if_neg g] at hc ⊢
          exact Ev.bind (Ev.const hc) (Ev.ite_pos rfl h2)
    · have hb : b.drop k = [] := List.drop_eq_nil_of_le (by omega)
      rw [ha, hb]
      exact Ev.ite_pos (by omega) (Ev.const rfl)
theorem ev_slices_Compare (a b : List Int) (hl : a.length ≤ 1048576) (hm : b.length ≤ 1048576) : Ev (fun n => slices_Compare_int64_int64.f n a b) (cmpI a b) := by
  unfold slices_Compare_int64_int64.f
  have h := compare_loop a b hl hm a.length 0 (by omega) (by omega) (by omega)
  simpa using h
theorem slices_Clone_f {l : List Int} (h : l.length < 17592186044416) : slices_Clone_int64_int64.f l = some l := by
  unfold slices_Clone_int64_int64.f; rw [if_pos h]
theorem specLeast_loop (w : List Int) (hl : w.length ≤ 1048576) : ∀ (d k : Nat) (best : List Int), best.length = w.length → k ≤ w.length → w.length - k = d → Ev (fun n => spec_l01Least.l0 n w best k) (leastFrom w d k best) := by
  intro d
  induction d with
  | zero =>
    intro k best hb hk hd
    refine Ev.step (fun n => by rw [spec_l01Least.l0]) ?_
    exact Ev.ite_neg (by omega) (Ev.now _)
  | succ d ih =>
    intro k best hb hk hd
    refine Ev.step (fun n => by rw [spec_l01Least.l0]) ?_
    refine Ev.ite_pos (by omega) (Ev.bind (ev_spec_l01Rotate w k hk hl) (Ev.bind (ev_spec_l01Before _ _ (by rw [rotL_length]; omega) (by rw [rotL_length, hb])) ?_))
    rw [wrap_of (by omega) (by omega)]
    unfold leastFrom
    by_cases h : ltB (rotL w k) best = true
    · rw [if_pos h]
      exact Ev.ite_pos h (ih (k + 1) _ (rotL_length w k) (by omega) (by omega))
    · rw [if_neg h]
      exact Ev.ite_neg h (ih (k + 1) _ hb (by omega) (by omega))
theorem ev_spec_l01Least (w : List Int) (hl : w.length ≤ 1048576) : Ev (fun n => spec_l01Least.f n w) (leastL w) := by
  unfold spec_l01Least.f
  refine Ev.bind (Ev.const (spec_l01Own_f (by omega))) ?_
  unfold leastL
  by_cases h : 1 ≤ w.length
  · exact specLeast_loop w hl (w.length - 1) 1 w rfl h rfl
  · have e : w.length - 1 = 0 := by omega
    rw [e]
    refine Ev.step (fun n => by rw [spec_l01Least.l0]) ?_
    exact Ev.ite_neg (by omega) (Ev.now _)
theorem implLeast_loop (w : List Int) (hl : w.length ≤ 1048576) (hw : wfB w = true) : ∀ (d k : Nat) (best : List Int), best.length = w.length → k ≤ w.length → w.length - k = d → Ev (fun n => impl_least.l0 n w best (w.length : Int) k) (leastFrom w d k best) := by
  intro d
  induction d with
  | zero =>
    intro k best hb hk hd
    refine Ev.step (fun n => by rw [impl_least.l0]) ?_
    exact Ev.ite_neg (by omega) (Ev.bind (Ev.const (slices_Clone_f (by omega))) (Ev.now _))
  | succ d ih =>
    intro k best hb hk hd
    refine Ev.step (fun n => by rw [impl_least.l0]) ?_
    refine Ev.ite_pos (by omega) (Ev.bind (Ev.const (impl_rotated_f w k hk hl hw)) (Ev.bind (ev_slices_Compare _ _ (by rw [rotL_length]; omega) (by omega)) ?_))
    rw [wrap_of (by omega) (by omega)]
    have hc := cmpI_lt (a := rotL w k) (b := best) (by rw [rotL_length, hb])
    unfold leastFrom
    by_cases h : ltB (rotL w k) best = true
    · rw [if_pos h]
      exact Ev.ite_pos (hc.2 h) (ih (k + 1) _ (rotL_length w k) (by omega) (by omega))
    · rw [if_neg h]
      exact Ev.ite_neg (fun h' => h (hc.1 h')) (ih (k + 1) _ hb (by omega) (by omega))
theorem ev_impl_least (w : List Int) (h : isWordB w = true) : Ev (fun n => impl_least.f n w) (leastL w) := by
  have hl := word_length h
  unfold impl_least.f
  rw [← leastL_zero h]
  exact implLeast_loop w (by omega) (word_wf h) w.length 0 w rfl (by omega) (by omega)
end Go.Proofs.Ytflpdjmdkdgijaa.Pure
