/-
  Plain laws of sums: comparisons, the order of words, primes.
-/
import Derived.Test.YtflpdjmdkdgijaaGreatDoorTEvA
import Derived.Test.YtflpdjmdkdgijaaGreatDoorTEvW
import Derived.Test.YtflpdjmdkdgijaaGreatDoorTEvO
import Derived.Test.YtflpdjmdkdgijaaGreatDoorTEvI
import Derived.Test.YtflpdjmdkdgijaaGreatDoorTGgC
import Derived.Test.YtflpdjmdkdgijaaGreatDoorTGgB
import Derived.Test.YtflpdjmdkdgijaaGreatDoorTGgI
import Derived.Test.YtflpdjmdkdgijaaGreatDoorTGgS
namespace Go.Proofs.YtflpdjmdkdgijaaGreatDoor.Pure
open Go.RowKit Go.Proofs.YtflpdjmdkdgijaaGreatDoor.G Go.Proofs.YtflpdjmdkdgijaaGreatDoor.Plain Go.Proofs.YtflpdjmdkdgijaaGreatDoorW.PrintWords Go.Proofs.YtflpdjmdkdgijaaGreatDoorW.PrintLast
set_option linter.unusedVariables false

theorem rdJ {l : List S45} {k : Nat} (h : k < l.length) : rd_T45 l k = l[k] := by
  unfold rd_T45
  rw [Int.toNat_natCast, List.getD_eq_getElem?_getD, List.getElem?_eq_getElem h]
  rfl
theorem eqTermS_loop (ys : List S45) (hl : ys.length ≤ 1048576) (hx : ∀ x ∈ ys, x.f0.length ≤ 1048576) : ∀ (d k : Nat), k ≤ ys.length → ys.length - k = d → Ev (fun n => laws_eqTermS.l0 n ys ys k) true := by
  intro d
  induction d with
  | zero =>
    intro k hk hd
    exact Ev.step (fun n => by rw [laws_eqTermS.l0]) (Ev.ite_neg (by omega) (Ev.now _))
  | succ d ih =>
    intro k hk hd
    have h : k < ys.length := by omega
    have hm := hx _ (List.getElem_mem h)
    refine Ev.step (fun n => by rw [laws_eqTermS.l0]) (Ev.ite_pos (by omega) (Ev.ite_pos (by omega) (Ev.ite_pos (by omega) ?_)))
    rw [rdJ h, wrap_of (x := (k : Int) + 1) (by omega) (by omega)]
    have T : Ev (fun n => laws_eqTerm.f n ys[k].f0 ys[k].f1 ys[k].f0 ys[k].f1) true := by
      unfold laws_eqTerm.f
      exact Ev.bind (ev_eq_same _ (by omega)) (Ev.ite_pos rfl (Ev.ite_pos rfl (Ev.now _)))
    exact Ev.bind T (Ev.ite_pos rfl (ih (k + 1) (by omega) (by omega)))
theorem ev_eqSum_same (a : Int) (ys : List S45) (hl : ys.length ≤ 1048576) (hx : ∀ x ∈ ys, x.f0.length ≤ 1048576) : Ev (fun n => laws_eqSum.f n a ys a ys) true := by
  unfold laws_eqSum.f
  have T : Ev (fun n => laws_eqTermS.f n ys ys) true := by
    unfold laws_eqTermS.f
    exact Ev.ite_pos rfl (eqTermS_loop ys hl hx ys.length 0 (by omega) (by omega))
  exact Ev.ite_pos rfl (Ev.bind T (Ev.ite_pos rfl (Ev.now _)))
/-- Does one word come before another? -/
def befB (a b : List Int) : Bool := if a.length = b.length then ltB a b else decide (a.length < b.length)
theorem ev_before (a b : List Int) (ha : a.length ≤ 1048576) (hb : b.length ≤ 1048576) : Ev (fun n => spec_l01Before.f n a b) (befB a b) := by
  unfold befB
  by_cases e : a.length = b.length
  · rw [if_pos e]
    exact ev_spec_l01BeforeO a b ha e
  · rw [if_neg e]
    unfold spec_l01Before.f
    refine Ev.ite_neg (by omega) ?_
    have : decide ((a.length : Int) < (b.length : Int)) = decide (a.length < b.length) := by simp
    rw [this]
    exact Ev.now _
theorem cmpInt_f (x y : Int) : cmp_Compare_int.f x y = some (if x < y then -1 else if x > y then 1 else 0) := by
  unfold cmp_Compare_int.f cmp_isNaN_int.f
  simp
  split <;> first | rfl | (split <;> rfl)
theorem ev_or (x y : Int) : Ev (fun n => cmp_Or_int.f n [x, y]) (if x = 0 then y else x) := by
  unfold cmp_Or_int.f
  refine Ev.step (fun n => by rw [cmp_Or_int.l0]) ?_
  refine Ev.ite_pos (by simp) (Ev.ite_pos (by omega) (Ev.ite_pos (by simp) ?_))
  have e0 : rd [x, y] 0 = x := rfl
  have e1 : rd [x, y] 1 = y := rfl
  rw [e0, wrap_of (by omega) (by omega)]
  by_cases c : x = 0
  · rw [if_pos c]
    refine Ev.ite_pos c (Ev.step (fun n => by rw [cmp_Or_int.l0]) ?_)
    refine Ev.ite_pos (by simp) (Ev.ite_pos (by omega) (Ev.ite_pos (by simp) ?_))
    have e2 : rd [x, y] (0 + 1) = y := rfl
    rw [e2, wrap_of (by omega) (by omega)]
    by_cases g : y = 0
    · refine Ev.ite_pos g (Ev.step (fun n => by rw [cmp_Or_int.l0]) (Ev.ite_neg (by simp) ?_))
      rw [g]; exact Ev.now _
    · exact Ev.ite_neg g (Ev.now _)
  · rw [if_neg c]
    exact Ev.ite_neg c (Ev.now _)
def ordI (a b : List Int) : Int := if a.length < b.length then -1 else if a.length > b.length then 1 else cmpI a b
theorem ev_order (a b : List Int) (ha : a.length ≤ 1048576) (hb : b.length ≤ 1048576) : Ev (fun n => impl_wordOrder.f n a b) (ordI a b) := by
  unfold impl_wordOrder.f
  refine Ev.bind (Ev.const (cmpInt_f _ _)) (Ev.bind (ev_slices_CompareO a b ha hb) (Ev.bind (ev_or _ _) ?_))
  have : (if (if (a.length : Int) < (b.length : Int) then (-1 : Int) else if (a.length : Int) > (b.length : Int) then 1 else 0) = 0 then cmpI a b else (if (a.length : Int) < (b.length : Int) then (-1 : Int) else if (a.length : Int) > (b.length : Int) then 1 else 0)) = ordI a b := by
    unfold ordI
    by_cases c : a.length < b.length
    · rw [if_pos (show (a.length : Int) < b.length by omega), if_neg (by omega), if_pos c]
    · by_cases d : a.length > b.length
      · rw [if_neg (show ¬ (a.length : Int) < b.length by omega), if_pos (show (a.length : Int) > b.length by omega), if_neg (by omega), if_neg c, if_pos d]
      · rw [if_neg (show ¬ (a.length : Int) < b.length by omega), if_neg (show ¬ (a.length : Int) > b.length by omega), if_pos rfl, if_neg c, if_neg d]
  rw [this]
  exact Ev.now _
theorem ordI_bef (a b : List Int) : (ordI a b ≥ 0) ↔ befB a b = false := by
  unfold ordI befB
  by_cases e : a.length = b.length
  · rw [if_neg (by omega), if_neg (by omega), if_pos e]
    have := cmpI_lt e
    constructor
    · intro h
      by_cases q : ltB a b = true
      · have := this.2 q; omega
      · simpa using q
    · intro h
      by_cases q : cmpI a b < 0
      · have := this.1 q; rw [h] at this; cases this
      · omega
  · rw [if_neg e]
    by_cases c : a.length < b.length
    · rw [if_pos c, decide_eq_true c]; simp
    · rw [if_neg c, if_pos (by omega), decide_eq_false c]; simp
def primeB (p : Int) : Bool := decide (p ∈ ([2, 3, 5, 7, 11, 13] : List Int))
theorem in_spec (x a b : Int) : spec_l01In.f x a b = some (decide (a ≤ x ∧ x ≤ b)) := by
  unfold spec_l01In.f
  by_cases h : x ≥ a
  · rw [if_pos h]
    have : a ≤ x := h
    simp [this]
  · rw [if_neg h]
    have : ¬ a ≤ x := h
    simp [this]
theorem in_impl (x a b : Int) : impl_in.f x a b = some (decide (a ≤ x ∧ x ≤ b)) := by
  unfold impl_in.f
  by_cases h : x ≥ a
  · rw [if_pos h]
    have : a ≤ x := h
    simp [this]
  · rw [if_neg h]
    have : ¬ a ≤ x := h
    simp [this]
theorem prime_spec (p : Int) : spec_l03Prime.f p = some (primeB p) := by
  unfold spec_l03Prime.f primeB
  by_cases h2 : p = 2
  · subst h2; rfl
  · rw [if_neg h2]
    by_cases h3 : p = 3
    · subst h3; rfl
    · rw [if_neg h3]
      by_cases h5 : p = 5
      · subst h5; rfl
      · rw [if_neg h5]
        by_cases h7 : p = 7
        · subst h7; rfl
        · rw [if_neg h7]
          by_cases h11 : p = 11
          · subst h11; rfl
          · rw [if_neg h11]
            by_cases h13 : p = 13
            · subst h13; rfl
            · simp [h2, h3, h5, h7, h11, h13]
end Go.Proofs.YtflpdjmdkdgijaaGreatDoor.Pure
