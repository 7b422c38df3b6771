/-
  Plain laws of lists that are marked and held.
-/
import Derived.Test.YtflpdjmdkdgijaaGreatDoorTEvA
import Derived.Test.YtflpdjmdkdgijaaGreatDoorTGgM
namespace Go.Proofs.YtflpdjmdkdgijaaGreatDoor.Pure
open Go.RowKit Go.Proofs.YtflpdjmdkdgijaaGreatDoor.G Go.Proofs.YtflpdjmdkdgijaaGreatDoorW.PrintWords Go.Proofs.YtflpdjmdkdgijaaGreatDoorW.PrintLast
set_option linter.unusedVariables false

/-- The marks j, j + 1, .. -/
def marks (j : Int) (n : Nat) : List Int := (List.range n).map fun (i : Nat) => j + (i : Int)
theorem marks_length (j : Int) (n : Nat) : (marks j n).length = n := by simp [marks]
theorem marks_get {j : Int} {n k : Nat} (h : k < (marks j n).length) : (marks j n)[k] = j + k := by simp [marks]
theorem set_mark {l : List Int} {j : Int} {k : Nat} (h : k < l.length) : (marks j k ++ l.drop k).set k (j + k) = marks j (k + 1) ++ l.drop (k + 1) := by
  apply List.ext_getElem
  · simp [marks]; omega
  · intro i h1 h2
    rw [List.getElem_set]
    simp only [List.getElem_append, marks_length]
    by_cases e : k = i
    · subst e
      rw [if_pos rfl, dif_pos (by omega), marks_get]
    · rw [if_neg e]
      by_cases hi : i < k
      · rw [dif_pos hi, dif_pos (by omega), marks_get, marks_get]
      · rw [dif_neg hi, dif_neg (by omega), List.getElem_drop, List.getElem_drop]
        congr 1
        omega
theorem markInt64S_loop (l : List Int) (j : Int) (h0 : 0 ≤ j) (hl : j + l.length ≤ 9223372036854775807) : ∀ (d k : Nat), k ≤ l.length → l.length - k = d → Ev (fun n => laws_markInt64S.l0 n (marks j k ++ l.drop k) (j + k) k) (j + l.length, marks j l.length) := by
  intro d
  induction d with
  | zero =>
    intro k hk hd
    have e : k = l.length := by omega
    subst e
    refine Ev.step (fun n => by rw [laws_markInt64S.l0]) ?_
    refine Ev.ite_neg (by simp [marks_length]) ?_
    refine Ev.const ?_
    simp
  | succ d ih =>
    intro k hk hd
    refine Ev.step (fun n => by rw [laws_markInt64S.l0]) ?_
    refine Ev.ite_pos (by simp [marks_length]; omega) (Ev.ite_pos (by omega) ?_)
    rw [Int.toNat_natCast, set_mark (by omega), wrap_of (by omega) (by omega), wrap_of (by omega) (by omega)]
    have h := ih (k + 1) (by omega) (by omega)
    simpa [Int.add_assoc] using h
/-- The marks that a list is given. -/
theorem ev_markInt64S (l : List Int) (j : Int) (h0 : 0 ≤ j) (hl : j + l.length ≤ 9223372036854775807) : Ev (fun n => laws_markInt64S.f n l j) (j + l.length, marks j l.length) := by
  unfold laws_markInt64S.f
  have h := markInt64S_loop l j h0 hl l.length 0 (by omega) (by omega)
  simpa [marks] using h
theorem heldInt64S_loop (m : Nat) (j : Int) (h0 : 0 ≤ j) (hl : j + m ≤ 9223372036854775807) : ∀ (d k : Nat), k ≤ m → m - k = d → Ev (fun n => laws_heldInt64S.l0 n (marks j m) (j + k) k) (j + m) := by
  intro d
  induction d with
  | zero =>
    intro k hk hd
    have e : k = m := by omega
    subst e
    refine Ev.step (fun n => by rw [laws_heldInt64S.l0]) ?_
    refine Ev.ite_neg (by simp [marks_length]) ?_
    exact Ev.const rfl
  | succ d ih =>
    intro k hk hd
    refine Ev.step (fun n => by rw [laws_heldInt64S.l0]) ?_
    refine Ev.ite_pos (by simp [marks_length]; omega) (Ev.ite_pos (by omega) ?_)
    rw [rd_at (by simp [marks_length]; omega), marks_get]
    refine Ev.ite_pos rfl ?_
    rw [wrap_of (by omega) (by omega), wrap_of (by omega) (by omega)]
    have h := ih (k + 1) (by omega) (by omega)
    simpa [Int.add_assoc] using h
/-- The marks are held. -/
theorem ev_heldInt64S (m : Nat) (j : Int) (h0 : 0 ≤ j) (hl : j + m ≤ 9223372036854775807) : Ev (fun n => laws_heldInt64S.f n (marks j m) j) (j + m) := by
  unfold laws_heldInt64S.f
  have h := heldInt64S_loop m j h0 hl m 0 (by omega) (by omega)
  simpa using h
end Go.Proofs.YtflpdjmdkdgijaaGreatDoor.Pure
