/-
  Plain laws of places, ranges and codes. No condition but sizes.
-/
import Derived.Test.YtckmncebedhgeaaEvW
import Derived.Test.YtckmncebedhgeaaPlainB
import Derived.Test.YtckmncebedhgeaaGgT
import Derived.Test.YtckmncebedhgeaaGgK
import Derived.Test.YtckmncebedhgeaaGgI
namespace Go.Proofs.Ytckmncebedhgeaa.Pure
open Go.RowKit Go.Proofs.Ytckmncebedhgeaa.G Go.Proofs.Ytckmncebedhgeaa.Plain Go.Proofs.YtckmncebedhgeaaW.PrintWords Go.Proofs.YtckmncebedhgeaaW.PrintLast

theorem spec_l01In_f (a b c : Int) : spec_l01In.f a b c = some (decide (b ≤ a ∧ a ≤ c)) := by
  unfold spec_l01In.f
  by_cases h : a ≥ b
  · rw [if_pos h]
    congr 1
    have : b ≤ a := h
    simp [this]
  · rw [if_neg h]
    congr 1
    have : ¬ b ≤ a := h
    simp [this]
theorem impl_in_f (a b c : Int) : impl_in.f a b c = some (decide (b ≤ a ∧ a ≤ c)) := by
  unfold impl_in.f
  by_cases h : a ≥ b
  · rw [if_pos h]
    congr 1
    have : b ≤ a := h
    simp [this]
  · rw [if_neg h]
    congr 1
    have : ¬ b ≤ a := h
    simp [this]
theorem half_wrap {n : Nat} (h : n ≤ 9223372036854775807) : wrap64 ((n : Int) / 2) = (n / 2 : Nat) := by
  rw [wrap_of (by omega) (by omega)]; omega
theorem impl_isChord_f {w : List Int} (h : w.length ≤ 9223372036854775807) (i : Int) : impl_isChord.f w i = some (decide (0 ≤ i ∧ i ≤ ((w.length / 2 : Nat) : Int) - 1)) := by
  unfold impl_isChord.f impl_chords.f
  rw [half_wrap h]
  simp only [Option.bind_some]
  rw [wrap_of (by omega) (by omega), impl_in_f]
  rfl
theorem mem_take_succ {l : List Int} {k : Nat} (hk : k < l.length) (x : Int) : x ∈ l.take (k + 1) ↔ x ∈ l.take k ∨ l[k] = x := by
  rw [List.take_succ_eq_append_getElem hk]
  simp only [List.mem_append, List.mem_singleton]
  exact ⟨fun h => h.imp id Eq.symm, fun h => h.imp id Eq.symm⟩
theorem idxOf_take {l : List Int} {k : Nat} {x : Int} (hk : k < l.length) (h : x ∉ l.take k) (e : l[k] = x) : l.idxOf x = k := by
  have h1 : l = l.take k ++ x :: l.drop (k + 1) := by
    rw [← e, ← List.drop_eq_getElem_cons hk, List.take_append_drop]
  have h2 : (l.take k ++ x :: l.drop (k + 1)).idxOf x = (l.take k).length := idxOf_split h
  rw [← h1] at h2
  rw [h2, List.length_take]
  omega
def firstAt (l : List Int) (x : Int) (k : Nat) : Int := if x ∈ l.take k then (l.idxOf x : Nat) else -1
theorem firstAt_step {l : List Int} {x : Int} {k : Nat} (hk : k < l.length) : firstAt l x (k + 1) = if l[k] = x then (if firstAt l x k < 0 then (k : Int) else firstAt l x k) else firstAt l x k := by
  unfold firstAt
  have hm := mem_take_succ hk x
  by_cases e : l[k] = x
  · rw [if_pos e, if_pos (hm.2 (.inr e))]
    by_cases h : x ∈ l.take k
    · rw [if_pos h, if_neg (by omega)]
    · rw [if_neg h, if_pos (by omega), idxOf_take hk h e]
  · rw [if_neg e]
    by_cases h : x ∈ l.take k
    · rw [if_pos h, if_pos (hm.2 (.inl h))]
    · rw [if_neg h, if_neg (fun h' => (hm.1 h').elim h e)]
theorem places_loop (l : List Int) (x : Int) (hl : l.length ≤ 9223372036854775806) : ∀ (d k : Nat), k ≤ l.length → l.length - k = d → Ev (fun n => spec_l01Places.l0 n l x (firstAt l x k) (lastP (l.take k) x) k) (firstAt l x l.length, lastP l x) := by
  intro d
  induction d with
  | zero =>
    intro k hk hd
    have e : k = l.length := by omega
    subst e
    refine Ev.step (fun n => by rw [spec_l01Places.l0]) ?_
    refine Ev.ite_neg (by omega) ?_
    rw [List.take_length]
    exact Ev.now _
  | succ d ih =>
    intro k hk hd
    have hlt : k < l.length := by omega
    refine Ev.step (fun n => by rw [spec_l01Places.l0]) ?_
    refine Ev.ite_pos (by omega) (Ev.ite_pos (by omega) ?_)
    rw [rd_at hlt, wrap_of (by omega) (by omega)]
    have h := ih (k + 1) (by omega) (by omega)
    rw [firstAt_step hlt, List.take_succ_eq_append_getElem hlt, lastP_snoc, List.length_take, Nat.min_eq_left (by omega)] at h
    by_cases e : l[k] = x
    · rw [if_pos e, if_pos e] at h
      refine Ev.ite_pos e ?_
      by_cases h0 : firstAt l x k < 0
      · rw [if_pos h0] at h
        exact Ev.ite_pos h0 h
      · rw [if_neg h0] at h
        exact Ev.ite_neg h0 h
    · rw [if_neg e, if_neg e] at h
      exact Ev.ite_neg e h
/-- Both places of a number that stands twice. -/
theorem ev_spec_l01Places (l : List Int) (x : Int) (hl : l.length ≤ 9223372036854775806) (hc : l.count x = 2) : Ev (fun n => spec_l01Places.f n l x) ((fstP l x : Int), (sndP l x : Int)) := by
  unfold spec_l01Places.f
  have h := places_loop l x hl l.length 0 (by omega) (by omega)
  have hx : x ∈ l := List.count_pos_iff.1 (by omega)
  have h1 : firstAt l x l.length = (fstP l x : Nat) := by unfold firstAt fstP; rw [List.take_length, if_pos hx]
  rw [h1, lastP_two hc] at h
  simpa [firstAt, lastP] using h
theorem index_loop (l : List Int) (x : Int) (hl : l.length ≤ 9223372036854775806) : ∀ (d k : Nat), k ≤ l.length → l.length - k = d → x ∉ l.take k → Ev (fun n => slices_Index_int64_int64.l0 n l x (l.length : Int) k) (if x ∈ l then ((l.idxOf x : Nat) : Int) else -1) := by
  intro d
  induction d with
  | zero =>
    intro k hk hd hn
    have e : k = l.length := by omega
    subst e
    rw [List.take_length] at hn
    refine Ev.step (fun n => by rw [slices_Index_int64_int64.l0]) ?_
    refine Ev.ite_neg (by omega) ?_
    rw [if_neg hn]
    exact Ev.now _
  | succ d ih =>
    intro k hk hd hn
    have hlt : k < l.length := by omega
    refine Ev.step (fun n => by rw [slices_Index_int64_int64.l0]) ?_
    refine Ev.ite_pos (by omega) (Ev.ite_pos (by omega) (Ev.ite_pos (by omega) ?_))
    rw [rd_at hlt, wrap_of (by omega) (by omega)]
    by_cases e : l[k] = x
    · refine Ev.ite_pos e.symm ?_
      rw [if_pos (by rw [← e]; exact List.getElem_mem hlt), idxOf_take hlt hn e]
      exact Ev.now _
    · refine Ev.ite_neg (fun e' => e e'.symm) ?_
      exact ih (k + 1) (by omega) (by omega) (fun h => ((mem_take_succ hlt x).1 h).elim hn e)
theorem ev_slices_Index (l : List Int) (x : Int) (hl : l.length ≤ 9223372036854775806) : Ev (fun n => slices_Index_int64_int64.f n l x) (if x ∈ l then ((l.idxOf x : Nat) : Int) else -1) := by
  unfold slices_Index_int64_int64.f
  exact index_loop l x hl l.length 0 (by omega) (by omega) (by simp)
theorem ev_impl_places (l : List Int) (x : Int) (hl : l.length ≤ 9223372036854775800) (hc : l.count x = 2) : Ev (fun n => impl_places.f n l x) ((fstP l x : Int), (sndP l x : Int)) := by
  unfold impl_places.f
  have hx : x ∈ l := List.count_pos_iff.1 (by omega)
  have h1 := ev_slices_Index l x (by omega)
  rw [if_pos hx] at h1
  have h2 := sndP_lt hc
  have h3 : fstP l x = l.idxOf x := rfl
  have h4 : x ∈ l.drop (l.idxOf x + 1) := by
    obtain ⟨A, B, C, rfl, hA, hB, hC⟩ := split_two hc
    rw [idxOf_split hA, List.drop_append]
    simp
  have h5 := ev_slices_Index (l.drop (l.idxOf x + 1)) x (by rw [List.length_drop]; omega)
  rw [if_pos h4] at h5
  refine Ev.bind h1 ?_
  rw [wrap_of (by omega) (by omega)]
  refine Ev.ite_pos (by omega) (Ev.ite_pos (by omega) ?_)
  have e : (((l.idxOf x : Nat) : Int) + 1).toNat = l.idxOf x + 1 := by omega
  rw [e]
  refine Ev.bind h5 (Ev.const ?_)
  have h6 : sndP l x = l.idxOf x + 1 + (l.drop (l.idxOf x + 1)).idxOf x := rfl
  rw [wrap_of (by omega) (by omega), h3, h6]
  congr 2
end Go.Proofs.Ytckmncebedhgeaa.Pure
