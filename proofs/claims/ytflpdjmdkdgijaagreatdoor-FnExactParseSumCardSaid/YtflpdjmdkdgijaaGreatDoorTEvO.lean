/-
  Plain laws of the order of words: the reference's test and the library's Compare.
-/
import Derived.Test.YtflpdjmdkdgijaaGreatDoorTEvW
import Derived.Test.YtflpdjmdkdgijaaGreatDoorTPlainR
import Derived.Test.YtflpdjmdkdgijaaGreatDoorTGgE
import Derived.Test.YtflpdjmdkdgijaaGreatDoorTGgJ
namespace Go.Proofs.YtflpdjmdkdgijaaGreatDoor.Pure
open Go.RowKit Go.Proofs.YtflpdjmdkdgijaaGreatDoor.G Go.Proofs.YtflpdjmdkdgijaaGreatDoor.Plain Go.Proofs.YtflpdjmdkdgijaaGreatDoorW.PrintWords Go.Proofs.YtflpdjmdkdgijaaGreatDoorW.PrintLast
set_option linter.unusedVariables false
set_option linter.unusedSimpArgs false

theorem before_loopO (a b : List Int) (hl : a.length ≤ 1048576) (he : a.length = b.length) : ∀ (d k : Nat), k ≤ a.length → a.length - k = d → Ev (fun n => spec_l01Before.l0 n a b k) (ltB (a.drop k) (b.drop k)) := by
  intro d
  induction d with
  | zero =>
    intro k hk hd
    have e : k = a.length := by omega
    subst e
    refine Ev.step (fun n => by rw [spec_l01Before.l0]) ?_
    refine Ev.ite_neg (by omega) ?_
    rw [List.drop_length]
    exact Ev.const rfl
  | succ d ih =>
    intro k hk hd
    refine Ev.step (fun n => by rw [spec_l01Before.l0]) ?_
    refine Ev.ite_pos (by omega) (Ev.ite_pos (by omega) (Ev.ite_pos (by omega) ?_))
    rw [rd_at (show k < a.length by omega), rd_at (show k < b.length by omega), wrap_of (by omega) (by omega)]
    have h := ih (k + 1) (by omega) (by omega)
    have ha := List.drop_eq_getElem_cons (show k < a.length by omega)
    have hb := List.drop_eq_getElem_cons (show k < b.length by omega)
    rw [ha, hb]
    unfold ltB
    by_cases e : a[k] = b[k]
    · rw [if_pos e]
      exact Ev.ite_pos e h
    · rw [if_neg e]
      exact Ev.ite_neg e (Ev.now _)
theorem ev_spec_l01BeforeO (a b : List Int) (hl : a.length ≤ 1048576) (he : a.length = b.length) : Ev (fun n => spec_l01Before.f n a b) (ltB a b) := by
  unfold spec_l01Before.f
  have h := before_loopO a b hl he a.length 0 (by omega) (by omega)
  exact Ev.ite_pos (by omega) (by simpa using h)
theorem cmp_Compare_fO (x y : Int) : cmp_Compare_int64.f x y = some (if x < y then -1 else if x > y then 1 else 0) := by
  unfold cmp_Compare_int64.f cmp_isNaN_int64.f
  simp
  split
  · rfl
  · split <;> rfl
theorem compare_loopO (a b : List Int) (hl : a.length ≤ 1048576) (hm : b.length ≤ 1048576) : ∀ (d k : Nat), k ≤ a.length → k ≤ b.length → a.length - k = d → Ev (fun n => slices_Compare_int64_int64.l0 n a b a (a.length : Int) k) (cmpI (a.drop k) (b.drop k)) := by
  intro d
  induction d with
  | zero =>
    intro k hk hk2 hd
    have e : k = a.length := by omega
    subst e
    refine Ev.step (fun n => by rw [slices_Compare_int64_int64.l0]) ?_
    refine Ev.ite_neg (by omega) ?_
    rw [List.drop_length]
    by_cases h : a.length < b.length
    · have hb := List.drop_eq_getElem_cons h
      rw [hb]
      exact Ev.ite_pos (by omega) (Ev.const rfl)
    · have hb : b.drop a.length = [] := List.drop_eq_nil_of_le (by omega)
      rw [hb]
      exact Ev.ite_neg (by omega) (Ev.const rfl)
  | succ d ih =>
    intro k hk hk2 hd
    refine Ev.step (fun n => by rw [slices_Compare_int64_int64.l0]) ?_
    refine Ev.ite_pos (by omega) (Ev.ite_pos (by omega) (Ev.ite_pos (by omega) ?_))
    have ha := List.drop_eq_getElem_cons (show k < a.length by omega)
    by_cases h : k < b.length
    · have hb := List.drop_eq_getElem_cons h
      refine Ev.ite_neg (by omega) (Ev.ite_pos (by omega) ?_)
      rw [rd_at (show k < a.length by omega), rd_at h, wrap_of (by omega) (by omega), ha, hb]
      have h2 := ih (k + 1) (by omega) (by omega) (by omega)
      have hc := cmp_Compare_fO a[k] b[k]
      have hs : cmpI (a[k] :: a.drop (k + 1)) (b[k] :: b.drop (k + 1)) = if a[k] < b[k] then -1 else if a[k] > b[k] then 1 else cmpI (a.drop (k + 1)) (b.drop (k + 1)) := rfl
      rw [hs]
      by_cases l : a[k] < b[k]
      · rw [if_pos l] at hc ⊢
        exact Ev.bind (Ev.const hc) (Ev.ite_neg (by decide) (Ev.now _))
      · by_cases g : a[k] > b[k]
        · rw [if_neg l, if_pos g] at hc ⊢
          exact Ev.bind (Ev.const hc) (Ev.ite_neg (by decide) (Ev.now _))
        · rw [if_neg l, if_neg g] at hc ⊢
          exact Ev.bind (Ev.const hc) (Ev.ite_pos rfl h2)
    · have hb : b.drop k = [] := List.drop_eq_nil_of_le (by omega)
      rw [ha, hb]
      exact Ev.ite_pos (by omega) (Ev.const rfl)
theorem ev_slices_CompareO (a b : List Int) (hl : a.length ≤ 1048576) (hm : b.length ≤ 1048576) : Ev (fun n => slices_Compare_int64_int64.f n a b) (cmpI a b) := by
  unfold slices_Compare_int64_int64.f
  have h := compare_loopO a b hl hm a.length 0 (by omega) (by omega) (by omega)
  simpa using h
end Go.Proofs.YtflpdjmdkdgijaaGreatDoor.Pure
