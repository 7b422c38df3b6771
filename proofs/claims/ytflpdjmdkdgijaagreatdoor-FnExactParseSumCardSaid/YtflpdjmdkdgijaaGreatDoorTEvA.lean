/-
  Plain laws of the given laws' own helpers: copies, comparisons, marks. No condition but sizes.
-/
import Derived.Test.YtflpdjmdkdgijaaGreatDoorTGgL
namespace Go.Proofs.YtflpdjmdkdgijaaGreatDoor.Pure
open Go.RowKit Go.Proofs.YtflpdjmdkdgijaaGreatDoor.G Go.Proofs.YtflpdjmdkdgijaaGreatDoorW.PrintWords Go.Proofs.YtflpdjmdkdgijaaGreatDoorW.PrintLast

theorem Ev.ite_pos {α : Type} {c : Prop} [Decidable c] {g f : Nat → Option α} {r : α} (h : c) (k : Ev g r) : Ev (fun n => if c then g n else f n) r := by
  simp only [if_pos h]; exact k
theorem Ev.ite_neg {α : Type} {c : Prop} [Decidable c] {g f : Nat → Option α} {r : α} (h : ¬ c) (k : Ev f r) : Ev (fun n => if c then g n else f n) r := by
  simp only [if_neg h]; exact k
theorem Ev.const {α : Type} {a : Option α} {r : α} (h : a = some r) : Ev (fun _ => a) r := by rw [h]; exact Ev.now r

theorem wrap_of {x : Int} (h0 : -9223372036854775808 ≤ x) (h1 : x ≤ 9223372036854775807) : wrap64 x = x := by
  unfold wrap64; omega
theorem rd_at {l : List Int} {k : Nat} (h : k < l.length) : rd l k = l[k] := by
  unfold rd
  rw [Int.toNat_natCast, List.getD_eq_getElem?_getD, List.getElem?_eq_getElem h]
  rfl
theorem eqInt64S_loop (a b : List Int) (hl : a.length ≤ 9223372036854775807) (he : a.length = b.length) : ∀ (d k : Nat), k ≤ a.length → a.length - k = d → Ev (fun n => laws_eqInt64S.l0 n a b k) (decide (a.drop k = b.drop k)) := by
  intro d
  induction d with
  | zero =>
    intro k hk hd
    have e : k = a.length := by omega
    subst e
    refine Ev.step (fun n => by rw [laws_eqInt64S.l0]) ?_
    refine Ev.ite_neg (by omega) ?_
    refine Ev.const ?_
    rw [List.drop_length, he, List.drop_length]
    rfl
  | succ d ih =>
    intro k hk hd
    refine Ev.step (fun n => by rw [laws_eqInt64S.l0]) ?_
    refine Ev.ite_pos (by omega) (Ev.ite_pos (by omega) (Ev.ite_pos (by omega) ?_))
    rw [rd_at (show k < a.length by omega), rd_at (show k < b.length by omega)]
    have ha := List.drop_eq_getElem_cons (show k < a.length by omega)
    have hb := List.drop_eq_getElem_cons (show k < b.length by omega)
    by_cases e : a[k] = b[k]
    · refine Ev.ite_pos e ?_
      rw [wrap_of (by omega) (by omega)]
      have h := ih (k + 1) (by omega) (by omega)
      have e2 : decide (a.drop k = b.drop k) = decide (a.drop (k + 1) = b.drop (k + 1)) := by
        rw [ha, hb, e]
        simp only [List.cons.injEq, true_and]
      rw [e2]
      exact h
    · refine Ev.ite_neg e ?_
      refine Ev.const ?_
      have e2 : decide (a.drop k = b.drop k) = false := by
        rw [ha, hb]
        simp only [List.cons.injEq, e, false_and, decide_false]
      rw [e2]
/-- A comparison tells whether two lists are equal. -/
theorem ev_eqInt64S (a b : List Int) (hl : a.length ≤ 9223372036854775807) : Ev (fun n => laws_eqInt64S.f n a b) (decide (a = b)) := by
  unfold laws_eqInt64S.f
  by_cases he : a.length = b.length
  · refine Ev.ite_pos (by omega) ?_
    have h := eqInt64S_loop a b hl he a.length 0 (by omega) (by omega)
    simpa using h
  · refine Ev.ite_neg (by omega) ?_
    refine Ev.const ?_
    have : a ≠ b := fun e => he (by rw [e])
    simp [this]
theorem ev_eq_same (a : List Int) (hl : a.length ≤ 9223372036854775807) : Ev (fun n => laws_eqInt64S.f n a a) true := by
  have h := ev_eqInt64S a a hl
  simpa using h
end Go.Proofs.YtflpdjmdkdgijaaGreatDoor.Pure
