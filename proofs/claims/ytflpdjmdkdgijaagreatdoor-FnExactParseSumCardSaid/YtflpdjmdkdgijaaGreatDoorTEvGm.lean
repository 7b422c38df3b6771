/-
  Plain laws of sums that are marked and held (as in EvGa, for a law that gathers nothing).
-/
import Derived.Test.YtflpdjmdkdgijaaGreatDoorTEvA
import Derived.Test.YtflpdjmdkdgijaaGreatDoorTEvE
import Derived.Test.YtflpdjmdkdgijaaGreatDoorTEvUe
import Derived.Test.YtflpdjmdkdgijaaGreatDoorTGgQ
namespace Go.Proofs.YtflpdjmdkdgijaaGreatDoor.Pure
open Go.RowKit Go.Proofs.YtflpdjmdkdgijaaGreatDoor.G Go.Proofs.YtflpdjmdkdgijaaGreatDoor.Plain Go.Proofs.YtflpdjmdkdgijaaGreatDoorW.PrintWords Go.Proofs.YtflpdjmdkdgijaaGreatDoorW.PrintLast
set_option linter.unusedVariables false
def sizeT (R : List S45) : Nat := (R.map fun x => x.f0.length + 1).sum
theorem sizeT_cons (r : S45) (R : List S45) : sizeT (r :: R) = r.f0.length + 1 + sizeT R := by simp [sizeT]
def marksT (j : Int) : List S45 → List S45
  | [] => []
  | r :: R => ⟨marks j r.f0.length, j + r.f0.length⟩ :: marksT (j + r.f0.length + 1) R
theorem set_midT (pre : List S45) (r q : S45) (R : List S45) : (pre ++ r :: R).set pre.length q = (pre ++ [q]) ++ R := by
  rw [List.set_append]
  simp
theorem markT_loop : ∀ (R pre : List S45) (x : Int), 0 ≤ x → x + sizeT R ≤ 4611686018427387904 → pre.length + R.length ≤ 1048576 → Ev (fun n => laws_markTermS.l0 n (pre ++ R) x (pre.length : Int)) (x + sizeT R, pre ++ marksT x R)
  | [], pre, x, h0, hx, hl => by
    refine Ev.step (fun n => by rw [laws_markTermS.l0]) ?_
    refine Ev.ite_neg (by simp) (Ev.const ?_)
    simp [sizeT, marksT]
  | r :: R, pre, x, h0, hx, hl => by
    rw [List.length_cons] at hl
    rw [sizeT_cons] at hx
    refine Ev.step (fun n => by rw [laws_markTermS.l0]) ?_
    refine Ev.ite_pos (by simp; omega) (Ev.ite_pos (by omega) ?_)
    have e0 : (pre ++ r :: R).getD (pre.length : Int).toNat z45 = r := by
      rw [Int.toNat_natCast, List.getD_eq_getElem?_getD, List.getElem?_append_right (Nat.le_refl _)]; simp
    rw [e0, wrap_of (x := (pre.length : Int) + 1) (by omega) (by omega), Int.toNat_natCast]
    refine Ev.bind (ev_markInt64S r.f0 x h0 (by omega)) ?_
    rw [set_midT, wrap_of (x := x + (r.f0.length : Int) + 1) (by omega) (by omega)]
    have h := markT_loop R (pre ++ [⟨marks x r.f0.length, x + r.f0.length⟩]) (x + r.f0.length + 1) (by omega) (by omega) (by simp; omega)
    have e : (((pre ++ [(⟨marks x r.f0.length, x + r.f0.length⟩ : S45)]).length : Nat) : Int) = (pre.length : Int) + 1 := by simp
    rw [e] at h
    rw [sizeT_cons, marksT]
    have e2 : x + ((r.f0.length + 1 + sizeT R : Nat) : Int) = x + r.f0.length + 1 + sizeT R := by omega
    rw [e2]
    simpa using h
theorem ev_markSum (R : List S45) (x : Int) (h0 : 0 ≤ x) (hx : x + sizeT R ≤ 4611686018427387904) (hl : R.length ≤ 1048576) : Ev (fun n => laws_markSum.f n R x) (x + sizeT R, marksT x R) := by
  unfold laws_markSum.f laws_markTermS.f
  have h := markT_loop R [] x h0 hx (by simpa using hl)
  simpa using h
theorem heldT_loop : ∀ (R pre : List S45) (x : Int), 0 ≤ x → x + sizeT R ≤ 4611686018427387904 → pre.length + R.length ≤ 1048576 → Ev (fun n => laws_heldTermS.l0 n (pre ++ marksT x R) x (pre.length : Int)) (x + sizeT R)
  | [], pre, x, h0, hx, hl => by
    refine Ev.step (fun n => by rw [laws_heldTermS.l0]) ?_
    refine Ev.ite_neg (by simp [marksT]) (Ev.const ?_)
    simp [sizeT]
  | r :: R, pre, x, h0, hx, hl => by
    rw [List.length_cons] at hl
    rw [sizeT_cons] at hx
    rw [marksT]
    have hr : rd_T45 (pre ++ ⟨marks x r.f0.length, x + r.f0.length⟩ :: marksT (x + r.f0.length + 1) R) (pre.length : Int) = ⟨marks x r.f0.length, x + r.f0.length⟩ := by
      rw [rdJ (by simp)]; simp
    refine Ev.step (fun n => by rw [laws_heldTermS.l0]) ?_
    refine Ev.ite_pos (by simp; omega) (Ev.ite_pos (by omega) ?_)
    rw [hr, wrap_of (x := (pre.length : Int) + 1) (by omega) (by omega)]
    refine Ev.bind (ev_heldInt64S r.f0.length x h0 (by omega)) (Ev.ite_neg (by omega) (Ev.ite_pos rfl ?_))
    rw [wrap_of (x := x + (r.f0.length : Int) + 1) (by omega) (by omega)]
    have h := heldT_loop R (pre ++ [⟨marks x r.f0.length, x + r.f0.length⟩]) (x + r.f0.length + 1) (by omega) (by omega) (by simp; omega)
    have e : (((pre ++ [(⟨marks x r.f0.length, x + r.f0.length⟩ : S45)]).length : Nat) : Int) = (pre.length : Int) + 1 := by simp
    rw [e] at h
    rw [sizeT_cons]
    have e2 : x + ((r.f0.length + 1 + sizeT R : Nat) : Int) = x + r.f0.length + 1 + sizeT R := by omega
    rw [e2]
    simpa using h
theorem ev_heldSum (p : Int) (R : List S45) (x : Int) (h0 : 0 ≤ x) (hx : x + sizeT R ≤ 4611686018427387904) (hl : R.length ≤ 1048576) : Ev (fun n => laws_heldSum.f n p (marksT x R) x) (x + sizeT R) := by
  unfold laws_heldSum.f laws_heldTermS.f
  have h := heldT_loop R [] x h0 hx (by simpa using hl)
  refine Ev.bind (by simpa using h) (Ev.ite_neg (by omega) (Ev.now _))
theorem sizeT_le {R : List S45} {m : Nat} (hr : ∀ r ∈ R, r.f0.length ≤ m) : sizeT R ≤ R.length * (m + 1) := by
  induction R with
  | nil => simp [sizeT]
  | cons r R ih =>
    rw [sizeT_cons, List.length_cons, Nat.succ_mul]
    have h1 := hr r List.mem_cons_self
    have h2 := ih (fun q hq => hr q (List.mem_cons_of_mem _ hq))
    omega
end Go.Proofs.YtflpdjmdkdgijaaGreatDoor.Pure
