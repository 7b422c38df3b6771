/-
  The given law laws.FnExactCrossingRows returns true for every list: the program's CrossingRows answers as the reference's. No condition.
-/
import Derived.Test.YtaegjapbkkfpdaaEvM
import Derived.Test.YtaegjapbkkfpdaaEvY
import Derived.Test.YtaegjapbkkfpdaaGlCrossingRows
namespace Go.Proofs.Ytaegjapbkkfpdaa.Pure
open Go.RowKit Go.Proofs.Ytaegjapbkkfpdaa.G Go.Proofs.Ytaegjapbkkfpdaa.Plain Go.Proofs.YtaegjapbkkfpdaaW.PrintWords Go.Proofs.YtaegjapbkkfpdaaW.PrintLast

/-- What CrossingRows answers. -/
def CrossingRowsR (w : List Int) : List (List Int) × Int := if isWordB w = true then (rowsL w, 0) else ([], 1)
theorem ev_spec_CrossingRows (w : List Int) : Ev (fun n => spec_CrossingRows.f n w) (CrossingRowsR w) := by
  unfold spec_CrossingRows.f CrossingRowsR
  refine Ev.bind (ev_spec_l01Is w) ?_
  by_cases h : isWordB w = true
  · refine Ev.ite_pos h ?_
    rw [if_pos h]
    exact Ev.bind (ev_spec_l01Cross w h) (Ev.now _)
  · refine Ev.ite_neg h ?_
    rw [if_neg h]
    exact Ev.now _
theorem ev_impl_CrossingRows (w : List Int) (hw : wfB w = true) : Ev (fun n => impl_CrossingRows.f n w) (CrossingRowsR w) := by
  unfold impl_CrossingRows.f CrossingRowsR
  refine Ev.bind (ev_impl_IsWord w hw) ?_
  by_cases h : isWordB w = true
  · refine Ev.ite_pos h ?_
    rw [if_pos h]
    exact Ev.bind (ev_impl_rows w h) (Ev.now _)
  · refine Ev.ite_neg h ?_
    rw [if_neg h]
    exact Ev.now _
theorem CrossingRowsR_le (w : List Int) : (CrossingRowsR w).1.length ≤ 12 ∧ ∀ r ∈ (CrossingRowsR w).1, r.length ≤ 12 := by
  unfold CrossingRowsR
  by_cases h : isWordB w = true
  · rw [if_pos h]
    have := word_length h
    refine ⟨by rw [rowsL_length]; omega, fun r hr => ?_⟩
    obtain ⟨i, _, rfl⟩ := List.mem_map.1 hr
    rw [crossRow_length]; omega
  · rw [if_neg h]
    exact ⟨by simp, fun r hr => by simp at hr⟩
theorem FnExactCrossingRows : laws_FnExactCrossingRows.Pure := by
  intro l0 hm hs hw hl
  have hf : wfB l0 = true := List.all_eq_true.2 hw
  obtain ⟨b1, b2⟩ := CrossingRowsR_le l0
  have b3 := total_le b2
  obtain ⟨K1, h1⟩ := ev_spec_CrossingRows l0
  obtain ⟨K2, h2⟩ := ev_impl_CrossingRows l0 hf
  obtain ⟨K3, h3⟩ := ev_eqSS_same (CrossingRowsR l0).1 (by omega) (fun r hr => by have := b2 r hr; omega)
  obtain ⟨K4, h4⟩ := ev_markSS (CrossingRowsR l0).1 1 (by omega) (by omega) (by omega)
  obtain ⟨K5, h5⟩ := ev_heldSS (CrossingRowsR l0).1 1 (by omega) (by omega) (by omega)
  obtain ⟨K6, h6⟩ := ev_toInt64S l0 (by omega)
  obtain ⟨K7, h7⟩ := ev_eq_same l0 (by omega)
  obtain ⟨K8, h8⟩ := ev_markInt64S l0 1 (by omega) (by omega)
  have m1 : ∀ a b : Nat, a ≤ max a b := Nat.le_max_left
  refine ⟨max K1 (max K2 (max K3 (max K4 (max K5 (max K6 (max K7 K8)))))), _, _, _, _, _, _, h1 _ (by omega), h2 _ (by omega), h3 _ (by omega), h4 _ (by omega), h5 _ (by omega), by omega, h6 _ (by omega), h7 _ (by omega), h8 _ (by omega), by omega⟩
end Go.Proofs.Ytaegjapbkkfpdaa.Pure
