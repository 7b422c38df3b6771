/-
  Plain laws of Gauss codes that are marked and held; a list that a function is put over place by place.
-/
import Derived.Test.YtckmncebedhgeaaEvH
import Derived.Test.YtckmncebedhgeaaGgG
namespace Go.Proofs.Ytckmncebedhgeaa.Pure
open Go.RowKit Go.Proofs.Ytckmncebedhgeaa.G Go.Proofs.Ytckmncebedhgeaa.Plain Go.Proofs.YtckmncebedhgeaaW.PrintWords Go.Proofs.YtckmncebedhgeaaW.PrintLast
set_option linter.unusedVariables false

theorem ev_markGauss (w h s : List Int) (hw : w.length ≤ 1048576) (hh : h.length ≤ 1048576) (hs : s.length ≤ 1048576) :
    Ev (fun n => laws_markGauss.f n w h s 1) (1 + (w.length : Int) + h.length + s.length, marks 1 w.length, marks (1 + (w.length : Int)) h.length, marks (1 + (w.length : Int) + h.length) s.length) := by
  unfold laws_markGauss.f
  exact Ev.bind (ev_markInt64S w 1 (by omega) (by omega)) (Ev.bind (ev_markInt64S h (1 + (w.length : Int)) (by omega) (by omega)) (Ev.bind (ev_markInt64S s (1 + (w.length : Int) + h.length) (by omega) (by omega)) (Ev.now _)))
theorem ev_heldGauss (a b c : Nat) (ha : a ≤ 1048576) (hb : b ≤ 1048576) (hc : c ≤ 1048576) :
    Ev (fun n => laws_heldGauss.f n (marks 1 a) (marks (1 + (a : Int)) b) (marks (1 + (a : Int) + b) c) 1) (1 + (a : Int) + b + c) := by
  unfold laws_heldGauss.f
  exact Ev.bind (ev_heldInt64S a 1 (by omega) (by omega)) (Ev.ite_neg (by omega) (Ev.bind (ev_heldInt64S b (1 + (a : Int)) (by omega) (by omega)) (Ev.ite_neg (by omega) (Ev.bind (ev_heldInt64S c (1 + (a : Int) + b) (by omega) (by omega)) (Ev.ite_neg (by omega) (Ev.now _))))))
/-- f has been put over the first k places. -/
def mapP (f : Int → Int) (l : List Int) (k : Nat) : List Int := (l.take k).map f ++ l.drop k
theorem mapP_length (f : Int → Int) (l : List Int) (k : Nat) : (mapP f l k).length = l.length := by unfold mapP; simp; omega
theorem mapP_all (f : Int → Int) (l : List Int) : mapP f l l.length = l.map f := by unfold mapP; simp
theorem mapP_none (f : Int → Int) (l : List Int) : mapP f l 0 = l := by unfold mapP; simp
theorem mapP_rd (f : Int → Int) {l : List Int} {k : Nat} (h : k < l.length) : rd (mapP f l k) k = l[k] := by
  show rd ((l.take k).map f ++ l.drop k) k = l[k]
  rw [rd_at (by simp; omega), List.getElem_append_right (by simp; omega)]
  simp [Nat.min_eq_left (Nat.le_of_lt h)]
theorem mapP_set (f : Int → Int) {l : List Int} {k : Nat} (h : k < l.length) : (mapP f l k).set k (f l[k]) = mapP f l (k + 1) := by
  show ((l.take k).map f ++ l.drop k).set k (f l[k]) = (l.take (k + 1)).map f ++ l.drop (k + 1)
  apply List.ext_getElem
  · simp; omega
  · intro i h1 h2
    rw [List.getElem_set]
    by_cases e : k = i
    · subst e
      rw [if_pos rfl, List.getElem_append_left (by simp; omega)]
      simp
    · rw [if_neg e, List.getElem_append, List.getElem_append]
      simp only [List.length_map, List.length_take, List.getElem_map, List.getElem_take, List.getElem_drop]
      by_cases hi : i < k
      · rw [dif_pos (by omega), dif_pos (by omega)]
      · rw [dif_neg (by omega), dif_neg (by omega)]
        congr 1
        omega
theorem map_take_succ (f : Int → Int) {l : List Int} {k : Nat} (h : k < l.length) : (l.take (k + 1)).map f = (l.take k).map f ++ [f l[k]] := by
  rw [List.take_add_one, List.getElem?_eq_getElem h, List.map_append]; rfl
end Go.Proofs.Ytckmncebedhgeaa.Pure
