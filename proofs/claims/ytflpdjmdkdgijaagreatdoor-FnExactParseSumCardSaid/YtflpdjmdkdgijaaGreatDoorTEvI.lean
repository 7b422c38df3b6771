/-
  Plain laws of the library's Index and Contains. No condition but sizes.
-/
import Derived.Test.YtflpdjmdkdgijaaGreatDoorTEvW
import Derived.Test.YtflpdjmdkdgijaaGreatDoorTPlainB
import Derived.Test.YtflpdjmdkdgijaaGreatDoorTGgJ
namespace Go.Proofs.YtflpdjmdkdgijaaGreatDoor.Pure
open Go.RowKit Go.Proofs.YtflpdjmdkdgijaaGreatDoor.G Go.Proofs.YtflpdjmdkdgijaaGreatDoor.Plain Go.Proofs.YtflpdjmdkdgijaaGreatDoorW.PrintWords Go.Proofs.YtflpdjmdkdgijaaGreatDoorW.PrintLast

theorem mem_take_succI {l : List Int} {k : Nat} (hk : k < l.length) (x : Int) : x ∈ l.take (k + 1) ↔ x ∈ l.take k ∨ l[k] = x := by
  rw [List.take_succ_eq_append_getElem hk]
  simp only [List.mem_append, List.mem_singleton]
  exact ⟨fun h => h.imp id Eq.symm, fun h => h.imp id Eq.symm⟩
theorem idxOf_takeI {l : List Int} {k : Nat} {x : Int} (hk : k < l.length) (h : x ∉ l.take k) (e : l[k] = x) : l.idxOf x = k := by
  have h1 : l = l.take k ++ x :: l.drop (k + 1) := by
    rw [← e, ← List.drop_eq_getElem_cons hk, List.take_append_drop]
  have h2 : (l.take k ++ x :: l.drop (k + 1)).idxOf x = (l.take k).length := idxOf_split h
  rw [← h1] at h2
  rw [h2, List.length_take]
  omega
theorem index_loopI (l : List Int) (x : Int) (hl : l.length ≤ 9223372036854775806) : ∀ (d k : Nat), k ≤ l.length → l.length - k = d → x ∉ l.take k → Ev (fun n => slices_Index_int64_int64.l0 n l x (l.length : Int) k) (if x ∈ l then ((l.idxOf x : Nat) : Int) else -1) := by
  intro d
  induction d with
  | zero =>
    intro k hk hd hn
    have e : k = l.length := by omega
    subst e
    rw [List.take_length] at hn
    refine Ev.step (fun n => by rw [slices_Index_int64_int64.l0]) ?_
    refine Ev.ite_neg (by omega) ?_
    rw [if_neg hn]
    exact Ev.now _
  | succ d ih =>
    intro k hk hd hn
    have hlt : k < l.length := by omega
    refine Ev.step (fun n => by rw [slices_Index_int64_int64.l0]) ?_
    refine Ev.ite_pos (by omega) (Ev.ite_pos (by omega) (Ev.ite_pos (by omega) ?_))
    rw [rd_at hlt, wrap_of (by omega) (by omega)]
    by_cases e : l[k] = x
    · refine Ev.ite_pos e.symm ?_
      rw [if_pos (by rw [← e]; exact List.getElem_mem hlt), idxOf_takeI hlt hn e]
      exact Ev.now _
    · refine Ev.ite_neg (fun e' => e e'.symm) ?_
      exact ih (k + 1) (by omega) (by omega) (fun h => ((mem_take_succI hlt x).1 h).elim hn e)
theorem ev_slices_IndexI (l : List Int) (x : Int) (hl : l.length ≤ 9223372036854775806) : Ev (fun n => slices_Index_int64_int64.f n l x) (if x ∈ l then ((l.idxOf x : Nat) : Int) else -1) := by
  unfold slices_Index_int64_int64.f
  exact index_loopI l x hl l.length 0 (by omega) (by omega) (by simp)
theorem ev_slices_ContainsI (l : List Int) (x : Int) (hl : l.length ≤ 9223372036854775806) : Ev (fun n => slices_Contains_int64_int64.f n l x) (decide (x ∈ l)) := by
  unfold slices_Contains_int64_int64.f
  refine Ev.bind (ev_slices_IndexI l x hl) (Ev.const ?_)
  by_cases h : x ∈ l
  · rw [if_pos h]; simp [h]
  · rw [if_neg h]; simp [h]
end Go.Proofs.YtflpdjmdkdgijaaGreatDoor.Pure
