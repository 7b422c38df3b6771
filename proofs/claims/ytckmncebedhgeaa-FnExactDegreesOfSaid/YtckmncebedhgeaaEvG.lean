/-
  Plain laws of degrees: how many chords each chord crosses. No condition but sizes.
-/
import Derived.Test.YtckmncebedhgeaaEvY
import Derived.Test.YtckmncebedhgeaaG100
import Derived.Test.YtckmncebedhgeaaG97
namespace Go.Proofs.Ytckmncebedhgeaa.Pure
open Go.RowKit Go.Proofs.Ytckmncebedhgeaa.G Go.Proofs.Ytckmncebedhgeaa.Plain Go.Proofs.YtckmncebedhgeaaW.PrintWords Go.Proofs.YtckmncebedhgeaaW.PrintLast

/-- How many of the chords below k the chord i crosses. -/
def crosses (w : List Int) (i : Nat) : Nat → Nat
  | 0 => 0
  | k + 1 => crosses w i k + if crossB w i k = true then 1 else 0
theorem crosses_le (w : List Int) (i : Nat) : ∀ k, crosses w i k ≤ k
  | 0 => Nat.le_refl _
  | k + 1 => by
    have := crosses_le w i k
    unfold crosses
    split <;> omega
def degreesL (w : List Int) : List Int := (List.range (w.length / 2)).map fun (i : Nat) => ((crosses w i (w.length / 2) : Nat) : Int)
theorem degreesL_length (w : List Int) : (degreesL w).length = w.length / 2 := by simp [degreesL]
theorem one_cross (w : List Int) (i k : Nat) : oneAt w i k = (((if crossB w i k = true then 1 else 0 : Nat)) : Int) := by unfold oneAt; split <;> rfl
theorem spec_deg_inner (w : List Int) (h : isWordB w = true) (out : List Int) (ho : out.length ≤ 12) (i : Nat) (hi : i < w.length / 2) (r : List Int)
    (hr : Ev (fun n => spec_l02Degrees.l0 n (rowsL w) (out ++ [((crosses w i (w.length / 2) : Nat) : Int)]) ((i : Int) + 1)) r) :
    ∀ (d k : Nat), k ≤ w.length / 2 → w.length / 2 - k = d → Ev (fun n => spec_l02Degrees.l1 n (rowsL w) out i ((crosses w i k : Nat) : Int) k) r := by
  have hlen := word_length h
  intro d
  induction d with
  | zero =>
    intro k hk hd
    obtain rfl : k = w.length / 2 := by omega
    refine Ev.step (fun n => by rw [spec_l02Degrees.l1]) ?_
    refine Ev.ite_neg (by rw [rowsL_length]; omega) (Ev.ite_pos (by omega) ?_)
    rw [wrap_of (by omega) (by omega)]
    exact hr
  | succ d ih =>
    intro k hk hd
    have hle := crosses_le w i k
    refine Ev.step (fun n => by rw [spec_l02Degrees.l1]) ?_
    refine Ev.ite_pos (by rw [rowsL_length]; omega) (Ev.ite_pos (by omega) (Ev.ite_pos (by rw [rowsL_length]; omega) (Ev.ite_pos (by omega) (Ev.ite_pos (by rw [rows_len w hi]; omega) ?_))))
    rw [rows_get w hi (by omega), one_cross, wrap_of (by omega) (by split <;> omega), wrap_of (by omega) (by omega)]
    have h2 := ih (k + 1) (by omega) (by omega)
    rw [crosses] at h2
    simpa using h2
theorem spec_deg_loop (w : List Int) (h : isWordB w = true) : ∀ (d i : Nat), i ≤ w.length / 2 → w.length / 2 - i = d →
    Ev (fun n => spec_l02Degrees.l0 n (rowsL w) ((List.range i).map fun (i : Nat) => ((crosses w i (w.length / 2) : Nat) : Int)) i) (degreesL w) := by
  have hlen := word_length h
  intro d
  induction d with
  | zero =>
    intro i hi hd
    obtain rfl : i = w.length / 2 := by omega
    refine Ev.step (fun n => by rw [spec_l02Degrees.l0]) ?_
    refine Ev.ite_neg (by rw [rowsL_length]; omega) ?_
    exact Ev.now _
  | succ d ih =>
    intro i hi hd
    refine Ev.step (fun n => by rw [spec_l02Degrees.l0]) ?_
    refine Ev.ite_pos (by rw [rowsL_length]; omega) ?_
    have h2 := spec_deg_inner w h ((List.range i).map fun (i : Nat) => ((crosses w i (w.length / 2) : Nat) : Int)) (by simp; omega) i (by omega) (degreesL w) (by
      have h3 := ih (i + 1) (by omega) (by omega)
      rw [List.range_succ, List.map_append] at h3
      exact h3) (w.length / 2) 0 (by omega) (by omega)
    simpa [crosses] using h2
theorem ev_spec_l02Degrees (w : List Int) (h : isWordB w = true) : Ev (fun n => spec_l02Degrees.f n (rowsL w)) (degreesL w) := by
  unfold spec_l02Degrees.f
  have h2 := spec_deg_loop w h (w.length / 2) 0 (by omega) (by omega)
  simpa using h2
theorem row_at (w : List Int) {i : Nat} (hi : i < w.length / 2) : rd_L1 (rowsL w) i = crossRow w (w.length / 2) i := by
  unfold rd_L1 rowsL
  rw [Int.toNat_natCast, List.getD_eq_getElem?_getD, List.getElem?_map, List.getElem?_range hi]
  rfl
theorem cross_get (w : List Int) {i k : Nat} (hk : k < w.length / 2) : rd (crossRow w (w.length / 2) i) k = oneAt w i k := by
  rw [rd_at (by rw [crossRow_length]; exact hk)]
  simp [crossRow, oneAt]
theorem impl_deg_inner (w : List Int) (h : isWordB w = true) (out : List Int) (ho : out.length ≤ 12) (i : Nat) (hi : i < w.length / 2) (r : List Int)
    (hr : Ev (fun n => impl_degrees.l0 n (out ++ [((crosses w i (w.length / 2) : Nat) : Int)]) (rowsL w) ((w.length / 2 : Nat) : Int) ((i : Int) + 1)) r) :
    ∀ (d k : Nat), k ≤ w.length / 2 → w.length / 2 - k = d → Ev (fun n => impl_degrees.l1 n out ((crosses w i k : Nat) : Int) (rowsL w) ((w.length / 2 : Nat) : Int) i (crossRow w (w.length / 2) i) ((w.length / 2 : Nat) : Int) k) r := by
  have hlen := word_length h
  intro d
  induction d with
  | zero =>
    intro k hk hd
    obtain rfl : k = w.length / 2 := by omega
    refine Ev.step (fun n => by rw [impl_degrees.l1]) ?_
    refine Ev.ite_neg (by omega) (Ev.ite_pos (by omega) ?_)
    rw [wrap_of (by omega) (by omega)]
    exact hr
  | succ d ih =>
    intro k hk hd
    have hle := crosses_le w i k
    refine Ev.step (fun n => by rw [impl_degrees.l1]) ?_
    refine Ev.ite_pos (by omega) (Ev.ite_pos (by omega) (Ev.ite_pos (by rw [crossRow_length]; omega) ?_))
    rw [cross_get w (by omega), one_cross, wrap_of (by omega) (by split <;> omega), wrap_of (by omega) (by omega)]
    have h2 := ih (k + 1) (by omega) (by omega)
    rw [crosses] at h2
    simpa using h2
theorem impl_deg_loop (w : List Int) (h : isWordB w = true) : ∀ (d i : Nat), i ≤ w.length / 2 → w.length / 2 - i = d →
    Ev (fun n => impl_degrees.l0 n ((List.range i).map fun (i : Nat) => ((crosses w i (w.length / 2) : Nat) : Int)) (rowsL w) ((w.length / 2 : Nat) : Int) i) (degreesL w) := by
  have hlen := word_length h
  intro d
  induction d with
  | zero =>
    intro i hi hd
    obtain rfl : i = w.length / 2 := by omega
    refine Ev.step (fun n => by rw [impl_degrees.l0]) ?_
    refine Ev.ite_neg (by omega) ?_
    exact Ev.now _
  | succ d ih =>
    intro i hi hd
    refine Ev.step (fun n => by rw [impl_degrees.l0]) ?_
    refine Ev.ite_pos (by omega) (Ev.ite_pos (by omega) (Ev.ite_pos (by rw [rowsL_length]; omega) ?_))
    rw [row_at w (by omega), crossRow_length]
    have h2 := impl_deg_inner w h ((List.range i).map fun (i : Nat) => ((crosses w i (w.length / 2) : Nat) : Int)) (by simp; omega) i (by omega) (degreesL w) (by
      have h3 := ih (i + 1) (by omega) (by omega)
      rw [List.range_succ, List.map_append] at h3
      exact h3) (w.length / 2) 0 (by omega) (by omega)
    simpa [crosses] using h2
theorem ev_impl_degrees (w : List Int) (h : isWordB w = true) : Ev (fun n => impl_degrees.f n w) (degreesL w) := by
  unfold impl_degrees.f
  refine Ev.bind (ev_impl_rows w h) ?_
  rw [rowsL_length]
  have h2 := impl_deg_loop w h (w.length / 2) 0 (by omega) (by omega)
  simpa using h2
theorem ev_spec_l02Code (w : List Int) : Ev (fun n => spec_l02Code.f n w) (if isWordB w = true then 0 else 1) := by
  unfold spec_l02Code.f
  refine Ev.bind (ev_spec_l01Is w) ?_
  by_cases h : isWordB w = true
  · refine Ev.ite_pos h ?_
    rw [if_pos h]; exact Ev.now _
  · refine Ev.ite_neg h ?_
    rw [if_neg h]; exact Ev.now _
end Go.Proofs.Ytckmncebedhgeaa.Pure
