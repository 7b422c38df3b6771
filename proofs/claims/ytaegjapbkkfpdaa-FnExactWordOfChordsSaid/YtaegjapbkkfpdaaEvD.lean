/-
  Plain laws of words without some chords: the reference's walks, which keep what is to be kept. No condition but sizes.
-/
import Derived.Test.YtaegjapbkkfpdaaEvP
import Derived.Test.YtaegjapbkkfpdaaGgT
namespace Go.Proofs.Ytaegjapbkkfpdaa.Pure
open Go.RowKit Go.Proofs.Ytaegjapbkkfpdaa.G Go.Proofs.Ytaegjapbkkfpdaa.Plain Go.Proofs.YtaegjapbkkfpdaaW.PrintWords Go.Proofs.YtaegjapbkkfpdaaW.PrintLast

theorem filter_take {l : List Int} {k : Nat} (hk : k < l.length) (p : Int → Bool) : (l.take (k + 1)).filter p = (l.take k).filter p ++ if p l[k] = true then [l[k]] else [] := by
  rw [List.take_succ_eq_append_getElem hk, List.filter_append]
  by_cases h : p l[k] = true
  · rw [if_pos h]; simp [h]
  · rw [if_neg h]; simp [h]
theorem delete_loop (l : List Int) (i : Int) (hl : l.length ≤ 1048576) : ∀ (d k : Nat), k ≤ l.length → l.length - k = d → Ev (fun n => spec_l01Delete.l0 n l i ((l.take k).filter fun x => x != i) k) (normalL (l.filter fun x => x != i)) := by
  intro d
  induction d with
  | zero =>
    intro k hk hd
    obtain rfl : k = l.length := by omega
    refine Ev.step (fun n => by rw [spec_l01Delete.l0]) ?_
    refine Ev.ite_neg (by omega) ?_
    rw [List.take_length]
    have hle := List.length_filter_le (fun x => x != i) l
    exact Ev.bind (ev_spec_l01Normal _ (by omega)) (Ev.now _)
  | succ d ih =>
    intro k hk hd
    have hlt : k < l.length := by omega
    have hle := List.length_filter_le (fun x => x != i) (l.take k)
    rw [List.length_take] at hle
    refine Ev.step (fun n => by rw [spec_l01Delete.l0]) ?_
    refine Ev.ite_pos (by omega) (Ev.ite_pos (by omega) ?_)
    rw [rd_at hlt, wrap_of (by omega) (by omega)]
    have h := ih (k + 1) (by omega) (by omega)
    rw [filter_take hlt] at h
    by_cases e : l[k] = i
    · refine Ev.ite_pos e ?_
      rw [if_neg (by simp [e]), List.append_nil] at h
      exact h
    · refine Ev.ite_neg e (Ev.ite_pos (by omega) ?_)
      rw [if_pos (by simp [e])] at h
      exact h
theorem ev_spec_l01Delete (l : List Int) (i : Int) (hl : l.length ≤ 1048576) : Ev (fun n => spec_l01Delete.f n l i) (normalL (l.filter fun x => x != i)) := by
  unfold spec_l01Delete.f
  have h := delete_loop l i hl l.length 0 (by omega) (by omega)
  simpa using h
theorem some_loop (l : List Int) (keep : List Bool) (hl : l.length ≤ 1048576) (hk : ∀ x ∈ l, 0 ≤ x ∧ x < (keep.length : Int)) : ∀ (d k : Nat), k ≤ l.length → l.length - k = d → Ev (fun n => spec_l01Some.l0 n l keep ((l.take k).filter fun x => keep.getD x.toNat false) k) (normalL (l.filter fun x => keep.getD x.toNat false)) := by
  intro d
  induction d with
  | zero =>
    intro k hk2 hd
    obtain rfl : k = l.length := by omega
    refine Ev.step (fun n => by rw [spec_l01Some.l0]) ?_
    refine Ev.ite_neg (by omega) ?_
    rw [List.take_length]
    have hle := List.length_filter_le (fun x : Int => keep.getD x.toNat false) l
    exact Ev.bind (ev_spec_l01Normal _ (by omega)) (Ev.now _)
  | succ d ih =>
    intro k hk2 hd
    have hlt : k < l.length := by omega
    have hle := List.length_filter_le (fun x : Int => keep.getD x.toNat false) (l.take k)
    rw [List.length_take] at hle
    have hm := hk l[k] (List.getElem_mem hlt)
    refine Ev.step (fun n => by rw [spec_l01Some.l0]) ?_
    rw [rd_at hlt]
    refine Ev.ite_pos (by omega) (Ev.ite_pos (by omega) (Ev.ite_pos hm.1 (Ev.ite_pos hm.2 ?_)))
    rw [wrap_of (by omega) (by omega)]
    have h := ih (k + 1) (by omega) (by omega)
    rw [filter_take hlt] at h
    by_cases e : keep.getD l[k].toNat false = true
    · refine Ev.ite_pos e (Ev.ite_pos (by omega) ?_)
      rw [if_pos e] at h
      exact h
    · refine Ev.ite_neg e ?_
      rw [if_neg e, List.append_nil] at h
      exact h
theorem ev_spec_l01Some (l : List Int) (keep : List Bool) (hl : l.length ≤ 1048576) (hk : ∀ x ∈ l, 0 ≤ x ∧ x < (keep.length : Int)) : Ev (fun n => spec_l01Some.f n l keep) (normalL (l.filter fun x => keep.getD x.toNat false)) := by
  unfold spec_l01Some.f
  have h := some_loop l keep hl hk l.length 0 (by omega) (by omega)
  simpa using h
theorem filter_le12 {w : List Int} (h : isWordB w = true) (p : Int → Bool) : (normalL (w.filter p)).length ≤ 12 := by
  rw [normalL_length]
  have := List.length_filter_le p w
  have := word_length h
  omega
end Go.Proofs.Ytaegjapbkkfpdaa.Pure
