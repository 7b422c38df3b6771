/-
  Plain laws of the given laws' own helpers over rows of rows: comparisons, marks. No condition but sizes.
-/
import Derived.Test.YtflpdjmdkdgijaaEvE
import Derived.Test.YtflpdjmdkdgijaaEvA
import Derived.Test.YtflpdjmdkdgijaaGgF
import Derived.Test.YtflpdjmdkdgijaaG15
namespace Go.Proofs.Ytflpdjmdkdgijaa.Pure
open Go.RowKit Go.Proofs.Ytflpdjmdkdgijaa.G Go.Proofs.YtflpdjmdkdgijaaW.PrintWords Go.Proofs.YtflpdjmdkdgijaaW.PrintLast

/-- How many numbers there are in all rows. -/
def total (R : List (List Int)) : Nat := (R.map List.length).sum
theorem total_cons (r : List Int) (R : List (List Int)) : total (r :: R) = r.length + total R := by simp [total]
def marksSS (j : Int) : List (List Int) → List (List Int)
  | [] => []
  | r :: R => marks j r.length :: marksSS (j + r.length) R
theorem row_mid (pre : List (List Int)) (r : List Int) (R : List (List Int)) : rd_L1 (pre ++ r :: R) (pre.length : Int) = r := by
  unfold rd_L1
  rw [Int.toNat_natCast, List.getD_eq_getElem?_getD, List.getElem?_append_right (Nat.le_refl _)]
  simp
theorem set_mid (pre : List (List Int)) (r q : List Int) (R : List (List Int)) : (pre ++ r :: R).set pre.length q = (pre ++ [q]) ++ R := by
  rw [List.set_append]
  simp
theorem eqSS_loop : ∀ (R pre : List (List Int)), pre.length + R.length ≤ 1048576 → (∀ r ∈ R, r.length ≤ 1048576) → Ev (fun n => laws_eqInt64SS.l0 n (pre ++ R) (pre ++ R) (pre.length : Int)) true
  | [], pre, hl, _ => by
    refine Ev.step (fun n => by rw [laws_eqInt64SS.l0]) ?_
    exact Ev.ite_neg (by simp) (Ev.now _)
  | r :: R, pre, hl, hr => by
    rw [List.length_cons] at hl
    refine Ev.step (fun n => by rw [laws_eqInt64SS.l0]) ?_
    refine Ev.ite_pos (by simp; omega) (Ev.ite_pos (by omega) (Ev.ite_pos (by simp; omega) ?_))
    rw [row_mid, wrap_of (by omega) (by omega)]
    refine Ev.bind (ev_eq_same r (by have := hr r List.mem_cons_self; omega)) (Ev.ite_pos rfl ?_)
    have h := eqSS_loop R (pre ++ [r]) (by simp; omega) (fun q hq => hr q (List.mem_cons_of_mem _ hq))
    have e : (((pre ++ [r]).length : Nat) : Int) = (pre.length : Int) + 1 := by simp
    rw [e] at h
    simpa using h
theorem ev_eqSS_same (R : List (List Int)) (hl : R.length ≤ 1048576) (hr : ∀ r ∈ R, r.length ≤ 1048576) : Ev (fun n => laws_eqInt64SS.f n R R) true := by
  unfold laws_eqInt64SS.f
  refine Ev.ite_pos rfl ?_
  have h := eqSS_loop R [] (by simpa using hl) hr
  simpa using h
theorem markSS_loop : ∀ (R pre : List (List Int)) (x : Int), 0 ≤ x → x + total R ≤ 4611686018427387904 → pre.length + R.length ≤ 1048576 → Ev (fun n => laws_markInt64SS.l0 n (pre ++ R) x (pre.length : Int)) (x + total R, pre ++ marksSS x R)
  | [], pre, x, h0, hx, hl => by
    refine Ev.step (fun n => by rw [laws_markInt64SS.l0]) ?_
    refine Ev.ite_neg (by simp) (Ev.const ?_)
    simp [total, marksSS]
  | r :: R, pre, x, h0, hx, hl => by
    rw [List.length_cons] at hl
    rw [total_cons] at hx
    refine Ev.step (fun n => by rw [laws_markInt64SS.l0]) ?_
    refine Ev.ite_pos (by simp; omega) (Ev.ite_pos (by omega) ?_)
    have e0 : (pre ++ r :: R).getD (pre.length : Int).toNat [] = r := row_mid pre r R
    rw [e0, wrap_of (by omega) (by omega), Int.toNat_natCast]
    refine Ev.bind (ev_markInt64S r x h0 (by omega)) ?_
    rw [set_mid]
    have h := markSS_loop R (pre ++ [marks x r.length]) (x + r.length) (by omega) (by omega) (by simp; omega)
    have e : (((pre ++ [marks x r.length]).length : Nat) : Int) = (pre.length : Int) + 1 := by simp
    rw [e] at h
    rw [total_cons, marksSS]
    have e2 : x + ((r.length + total R : Nat) : Int) = x + r.length + total R := by omega
    rw [e2]
    simpa using h
theorem ev_markSS (R : List (List Int)) (x : Int) (h0 : 0 ≤ x) (hx : x + total R ≤ 4611686018427387904) (hl : R.length ≤ 1048576) : Ev (fun n => laws_markInt64SS.f n R x) (x + total R, marksSS x R) := by
  unfold laws_markInt64SS.f
  have h := markSS_loop R [] x h0 hx (by simpa using hl)
  simpa using h
theorem marksSS_length : ∀ (R : List (List Int)) (x : Int), (marksSS x R).length = R.length
  | [], _ => rfl
  | r :: R, x => by simp [marksSS, marksSS_length R]
theorem heldSS_loop : ∀ (R pre : List (List Int)) (x : Int), 0 ≤ x → x + total R ≤ 4611686018427387904 → pre.length + R.length ≤ 1048576 → Ev (fun n => laws_heldInt64SS.l0 n (pre ++ marksSS x R) x (pre.length : Int)) (x + total R)
  | [], pre, x, h0, hx, hl => by
    refine Ev.step (fun n => by rw [laws_heldInt64SS.l0]) ?_
    refine Ev.ite_neg (by simp [marksSS]) (Ev.const ?_)
    simp [total]
  | r :: R, pre, x, h0, hx, hl => by
    rw [List.length_cons] at hl
    rw [total_cons] at hx
    rw [marksSS]
    refine Ev.step (fun n => by rw [laws_heldInt64SS.l0]) ?_
    refine Ev.ite_pos (by simp; omega) (Ev.ite_pos (by omega) ?_)
    rw [row_mid, wrap_of (by omega) (by omega)]
    refine Ev.bind (ev_heldInt64S r.length x h0 (by omega)) (Ev.ite_neg (by omega) ?_)
    have h := heldSS_loop R (pre ++ [marks x r.length]) (x + r.length) (by omega) (by omega) (by simp; omega)
    have e : (((pre ++ [marks x r.length]).length : Nat) : Int) = (pre.length : Int) + 1 := by simp
    rw [e] at h
    rw [total_cons]
    have e2 : x + ((r.length + total R : Nat) : Int) = x + r.length + total R := by omega
    rw [e2]
    simpa using h
theorem ev_heldSS (R : List (List Int)) (x : Int) (h0 : 0 ≤ x) (hx : x + total R ≤ 4611686018427387904) (hl : R.length ≤ 1048576) : Ev (fun n => laws_heldInt64SS.f n (marksSS x R) x) (x + total R) := by
  unfold laws_heldInt64SS.f
  have h := heldSS_loop R [] x h0 hx (by simpa using hl)
  simpa using h
theorem total_le {R : List (List Int)} {m : Nat} (hr : ∀ r ∈ R, r.length ≤ m) : total R ≤ R.length * m := by
  induction R with
  | nil => simp [total]
  | cons r R ih =>
    rw [total_cons, List.length_cons, Nat.succ_mul]
    have h1 := hr r List.mem_cons_self
    have h2 := ih (fun q hq => hr q (List.mem_cons_of_mem _ hq))
    omega
end Go.Proofs.Ytflpdjmdkdgijaa.Pure
