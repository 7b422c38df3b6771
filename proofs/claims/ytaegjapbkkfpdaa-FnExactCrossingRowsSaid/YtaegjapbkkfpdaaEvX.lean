/-
  Plain laws of crossings: the reference's and the program's test whether two chords cross, and the crossing rows. No condition but sizes.
-/
import Derived.Test.YtaegjapbkkfpdaaEvP
import Derived.Test.YtaegjapbkkfpdaaPlainX
import Derived.Test.YtaegjapbkkfpdaaG88
import Derived.Test.YtaegjapbkkfpdaaGgK
namespace Go.Proofs.Ytaegjapbkkfpdaa.Pure
open Go.RowKit Go.Proofs.Ytaegjapbkkfpdaa.G Go.Proofs.Ytaegjapbkkfpdaa.Plain Go.Proofs.YtaegjapbkkfpdaaW.PrintWords Go.Proofs.YtaegjapbkkfpdaaW.PrintLast

theorem ev_impl_cross (l : List Int) (i k : Int) (hl : l.length ≤ 9223372036854775800) (hi : l.count i = 2) (hk : l.count k = 2) : Ev (fun n => impl_cross.f n l i k) (crossB l i k) := by
  unfold impl_cross.f
  refine Ev.bind (ev_impl_places l i hl hi) (Ev.bind (ev_impl_places l k hl hk) ?_)
  have h1 := sndP_lt hi
  have h2 := sndP_lt hk
  unfold crossB
  by_cases e : i = k
  · refine Ev.ite_pos e (Ev.const ?_)
    simp [e]
  · have h3 := place_ne hi hk e
    refine Ev.ite_neg e (Ev.const ?_)
    simp only [e, decide_false, Bool.not_false, Bool.true_and]
    by_cases c1 : fstP l i < fstP l k
    · have d1 : ((fstP l k : Int) > (fstP l i : Int)) := by omega
      rw [if_pos d1]
      by_cases c2 : fstP l i < sndP l k
      · have d2 : ((sndP l k : Int) > (fstP l i : Int)) := by omega
        rw [if_pos d2]
        simp [c1, c2]
      · exact absurd c2 (by omega)
    · have d1 : ¬ ((fstP l k : Int) > (fstP l i : Int)) := by omega
      rw [if_neg d1]
      by_cases c2 : fstP l i < sndP l k
      · have d2 : ((sndP l k : Int) > (fstP l i : Int)) := by omega
        rw [if_pos d2]
        simp [c1, c2]
      · have d2 : ¬ ((sndP l k : Int) > (fstP l i : Int)) := by omega
        rw [if_neg d2]
        simp [c1, c2]
theorem set_row {f : Nat → Int} {n k : Nat} (hk : k < n) (h : f k = 1) : ((List.range k).map f ++ List.replicate (n - k) 0).set k 1 = (List.range (k + 1)).map f ++ List.replicate (n - (k + 1)) 0 := by
  apply List.ext_getElem
  · simp; omega
  · intro i h1 h2
    rw [List.getElem_set]
    simp only [List.getElem_append, List.length_map, List.length_range, List.getElem_map, List.getElem_range, List.getElem_replicate]
    by_cases e : k = i
    · subst e
      rw [if_pos rfl, dif_pos (by omega), h]
    · rw [if_neg e]
      by_cases hi : i < k
      · rw [dif_pos hi, dif_pos (by omega)]
      · rw [dif_neg hi, dif_neg (by omega)]
theorem skip_row {f : Nat → Int} {n k : Nat} (hk : k < n) (h : f k = 0) : ((List.range k).map f ++ List.replicate (n - k) 0) = (List.range (k + 1)).map f ++ List.replicate (n - (k + 1)) 0 := by
  apply List.ext_getElem
  · simp; omega
  · intro i h1 h2
    simp only [List.getElem_append, List.length_map, List.length_range, List.getElem_map, List.getElem_range, List.getElem_replicate]
    by_cases hi : i < k
    · rw [dif_pos hi, dif_pos (by omega)]
    · rw [dif_neg hi]
      by_cases hi2 : i < k + 1
      · obtain rfl : i = k := by omega
        rw [dif_pos hi2, h]
      · rw [dif_neg hi2]
theorem row_length {f : Nat → Int} {n k : Nat} (hk : k ≤ n) : ((List.range k).map f ++ List.replicate (n - k) (0 : Int)).length = n := by simp; omega
/-- The number at place k of a row. -/
def oneAt (w : List Int) (i : Int) (k : Nat) : Int := if crossB w i k = true then 1 else 0
theorem in_place {w : List Int} {i k : Int} (hi : w.count i = 2) (hk : w.count k = 2) (hik : k ≠ i) :
    (decide ((fstP w i : Int) ≤ (fstP w k : Int) ∧ (fstP w k : Int) ≤ (sndP w i : Int)) != decide ((fstP w i : Int) ≤ (sndP w k : Int) ∧ (sndP w k : Int) ≤ (sndP w i : Int))) = crossB w i k := by
  have h1 := place_ne hi hk (Ne.symm hik)
  have e1 : decide ((fstP w i : Int) ≤ (fstP w k : Int) ∧ (fstP w k : Int) ≤ (sndP w i : Int)) = decide (fstP w i < fstP w k ∧ fstP w k < sndP w i) := by
    rw [decide_eq_decide]; omega
  have e2 : decide ((fstP w i : Int) ≤ (sndP w k : Int) ∧ (sndP w k : Int) ≤ (sndP w i : Int)) = decide (fstP w i < sndP w k ∧ sndP w k < sndP w i) := by
    rw [decide_eq_decide]; omega
  rw [e1, e2]
  unfold crossB
  simp [Ne.symm hik]
theorem spec_cross_row (w : List Int) (h : isWordB w = true) (out : List (List Int)) (i : Nat) (hi : i < w.length / 2) (ho : out.length ≤ 12) (r : List (List Int))
    (hr : Ev (fun n => spec_l01Cross.l0 n w (out ++ [crossRow w (w.length / 2) i]) ((w.length / 2 : Nat) : Int) ((i : Int) + 1)) r) :
    ∀ (d k : Nat), k ≤ w.length / 2 → w.length / 2 - k = d → Ev (fun n => spec_l01Cross.l1 n w out ((w.length / 2 : Nat) : Int) i ((List.range k).map (oneAt w i) ++ List.replicate (w.length / 2 - k) 0) (fstP w i : Int) (sndP w i : Int) k) r := by
  have hlen := word_length h
  have ci := word_count h (x := (i : Int)) (by omega) (by omega)
  intro d
  induction d with
  | zero =>
    intro k hk hd
    obtain rfl : k = w.length / 2 := by omega
    refine Ev.step (fun n => by rw [spec_l01Cross.l1]) ?_
    refine Ev.ite_neg (by omega) (Ev.ite_pos (by omega) ?_)
    rw [wrap_of (by omega) (by omega)]
    have e : (List.range (w.length / 2)).map (oneAt w i) ++ List.replicate (w.length / 2 - w.length / 2) (0 : Int) = crossRow w (w.length / 2) i := by
      rw [Nat.sub_self]; simp [crossRow]; intros; rfl
    rw [e]
    exact hr
  | succ d ih =>
    intro k hk hd
    have hlt : k < w.length / 2 := by omega
    have ck := word_count h (x := (k : Int)) (by omega) (by omega)
    refine Ev.step (fun n => by rw [spec_l01Cross.l1]) ?_
    refine Ev.ite_pos (by omega) (Ev.bind (ev_spec_l01Places w k (by omega) ck) ?_)
    have hn := ih (k + 1) (by omega) (by omega)
    rw [wrap_of (by omega) (by omega)]
    by_cases e : (k : Int) = (i : Int)
    · refine Ev.ite_pos e ?_
      have h0 : oneAt w i k = 0 := by unfold oneAt crossB; simp [e]
      rw [skip_row hlt h0]
      exact hn
    · refine Ev.ite_neg e (Ev.bind (Ev.const (spec_l01In_f _ _ _)) (Ev.bind (Ev.const (spec_l01In_f _ _ _)) ?_))
      rw [in_place ci ck e]
      by_cases hc : crossB w i k = true
      · refine Ev.ite_pos hc (Ev.ite_pos (by omega) (Ev.ite_pos (by rw [row_length (by omega)]; omega) ?_))
        rw [Int.toNat_natCast, set_row hlt (by unfold oneAt; rw [if_pos hc])]
        exact hn
      · refine Ev.ite_neg hc ?_
        rw [skip_row hlt (by unfold oneAt; rw [if_neg hc])]
        exact hn
theorem spec_cross_loop (w : List Int) (h : isWordB w = true) : ∀ (d i : Nat), i ≤ w.length / 2 → w.length / 2 - i = d → Ev (fun n => spec_l01Cross.l0 n w ((List.range i).map fun (k : Nat) => crossRow w (w.length / 2) k) ((w.length / 2 : Nat) : Int) i) (rowsL w) := by
  have hlen := word_length h
  intro d
  induction d with
  | zero =>
    intro i hi hd
    obtain rfl : i = w.length / 2 := by omega
    refine Ev.step (fun n => by rw [spec_l01Cross.l0]) ?_
    refine Ev.ite_neg (by omega) ?_
    exact Ev.now _
  | succ d ih =>
    intro i hi hd
    refine Ev.step (fun n => by rw [spec_l01Cross.l0]) ?_
    refine Ev.ite_pos (by omega) (Ev.ite_pos (by omega) (Ev.ite_pos (by omega) ?_))
    refine Ev.bind (ev_spec_l01Places w i (by omega) (word_count h (by omega) (by omega))) ?_
    have h2 := spec_cross_row w h ((List.range i).map fun (k : Nat) => crossRow w (w.length / 2) k) i (by omega) (by simp; omega) (rowsL w) (by
      have h3 := ih (i + 1) (by omega) (by omega)
      rw [List.range_succ, List.map_append] at h3
      exact h3) (w.length / 2) 0 (by omega) (by omega)
    rw [Int.toNat_natCast]
    simpa using h2
theorem rows_get (w : List Int) {i k : Nat} (hi : i < w.length / 2) (hk : k < w.length / 2) : rd (rd_L1 (rowsL w) i) k = oneAt w i k := by
  have e : rd_L1 (rowsL w) (i : Int) = crossRow w (w.length / 2) i := by
    unfold rd_L1 rowsL
    rw [Int.toNat_natCast, List.getD_eq_getElem?_getD, List.getElem?_map, List.getElem?_range hi]
    rfl
  rw [e, rd_at (by rw [crossRow_length]; exact hk)]
  simp [crossRow, oneAt]
theorem rows_len (w : List Int) {i : Nat} (hi : i < w.length / 2) : (rd_L1 (rowsL w) i).length = w.length / 2 := by
  unfold rd_L1 rowsL
  rw [Int.toNat_natCast, List.getD_eq_getElem?_getD, List.getElem?_map, List.getElem?_range hi]
  simp [crossRow]
/-- The reference's crossing rows. -/
theorem ev_spec_l01Cross (w : List Int) (h : isWordB w = true) : Ev (fun n => spec_l01Cross.f n w) (rowsL w) := by
  have hlen := word_length h
  unfold spec_l01Cross.f
  rw [half_wrap (by omega)]
  have h2 := spec_cross_loop w h (w.length / 2) 0 (by omega) (by omega)
  simpa using h2
end Go.Proofs.Ytaegjapbkkfpdaa.Pure
