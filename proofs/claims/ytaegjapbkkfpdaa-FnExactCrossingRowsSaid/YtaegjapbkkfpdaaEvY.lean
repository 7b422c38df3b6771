/-
  Plain laws of the program's crossing rows. No condition but sizes.
-/
import Derived.Test.YtaegjapbkkfpdaaEvX
import Derived.Test.YtaegjapbkkfpdaaG103
namespace Go.Proofs.Ytaegjapbkkfpdaa.Pure
open Go.RowKit Go.Proofs.Ytaegjapbkkfpdaa.G Go.Proofs.Ytaegjapbkkfpdaa.Plain Go.Proofs.YtaegjapbkkfpdaaW.PrintWords Go.Proofs.YtaegjapbkkfpdaaW.PrintLast

theorem impl_cross_row (w : List Int) (h : isWordB w = true) (out : List (List Int)) (i : Nat) (hi : i < w.length / 2) (ho : out.length ≤ 12) (r : List (List Int))
    (hr : Ev (fun n => impl_rows.l0 n w ((w.length / 2 : Nat) : Int) (out ++ [crossRow w (w.length / 2) i]) ((w.length / 2 : Nat) : Int) ((i : Int) + 1)) r) :
    ∀ (d k : Nat), k ≤ w.length / 2 → w.length / 2 - k = d → Ev (fun n => impl_rows.l1 n w ((w.length / 2 : Nat) : Int) out i ((List.range k).map (oneAt w i) ++ List.replicate (w.length / 2 - k) 0) ((w.length / 2 : Nat) : Int) i ((w.length / 2 : Nat) : Int) k) r := by
  have hlen := word_length h
  have ci := word_count h (x := (i : Int)) (by omega) (by omega)
  intro d
  induction d with
  | zero =>
    intro k hk hd
    obtain rfl : k = w.length / 2 := by omega
    refine Ev.step (fun n => by rw [impl_rows.l1]) ?_
    refine Ev.ite_neg (by omega) (Ev.ite_pos (by omega) ?_)
    rw [wrap_of (by omega) (by omega)]
    have e : (List.range (w.length / 2)).map (oneAt w i) ++ List.replicate (w.length / 2 - w.length / 2) (0 : Int) = crossRow w (w.length / 2) i := by
      rw [Nat.sub_self]; simp [crossRow]; intros; rfl
    rw [e]
    exact hr
  | succ d ih =>
    intro k hk hd
    have hlt : k < w.length / 2 := by omega
    have ck := word_count h (x := (k : Int)) (by omega) (by omega)
    refine Ev.step (fun n => by rw [impl_rows.l1]) ?_
    refine Ev.ite_pos (by omega) (Ev.bind (ev_impl_cross w i k (by omega) ci ck) ?_)
    have hn := ih (k + 1) (by omega) (by omega)
    rw [wrap_of (by omega) (by omega)]
    by_cases hc : crossB w i k = true
    · refine Ev.ite_pos hc (Ev.ite_pos (by omega) (Ev.ite_pos (by rw [row_length (by omega)]; omega) ?_))
      rw [Int.toNat_natCast, set_row hlt (by unfold oneAt; rw [if_pos hc])]
      exact hn
    · refine Ev.ite_neg hc ?_
      rw [skip_row hlt (by unfold oneAt; rw [if_neg hc])]
      exact hn
theorem impl_rows_loop (w : List Int) (h : isWordB w = true) : ∀ (d i : Nat), i ≤ w.length / 2 → w.length / 2 - i = d → Ev (fun n => impl_rows.l0 n w ((w.length / 2 : Nat) : Int) ((List.range i).map fun (k : Nat) => crossRow w (w.length / 2) k) ((w.length / 2 : Nat) : Int) i) (rowsL w) := by
  have hlen := word_length h
  intro d
  induction d with
  | zero =>
    intro i hi hd
    obtain rfl : i = w.length / 2 := by omega
    refine Ev.step (fun n => by rw [impl_rows.l0]) ?_
    refine Ev.ite_neg (by omega) ?_
    exact Ev.now _
  | succ d ih =>
    intro i hi hd
    refine Ev.step (fun n => by rw [impl_rows.l0]) ?_
    refine Ev.ite_pos (by omega) (Ev.ite_pos (by omega) (Ev.ite_pos (by omega) ?_))
    have h2 := impl_cross_row w h ((List.range i).map fun (k : Nat) => crossRow w (w.length / 2) k) i (by omega) (by simp; omega) (rowsL w) (by
      have h3 := ih (i + 1) (by omega) (by omega)
      rw [List.range_succ, List.map_append] at h3
      exact h3) (w.length / 2) 0 (by omega) (by omega)
    rw [Int.toNat_natCast]
    simpa using h2
/-- The program's crossing rows. -/
theorem ev_impl_rows (w : List Int) (h : isWordB w = true) : Ev (fun n => impl_rows.f n w) (rowsL w) := by
  have hlen := word_length h
  unfold impl_rows.f impl_chords.f
  rw [half_wrap (by omega)]
  refine Ev.bind (Ev.now _) ?_
  have h2 := impl_rows_loop w h (w.length / 2) 0 (by omega) (by omega)
  simpa using h2
end Go.Proofs.Ytaegjapbkkfpdaa.Pure
