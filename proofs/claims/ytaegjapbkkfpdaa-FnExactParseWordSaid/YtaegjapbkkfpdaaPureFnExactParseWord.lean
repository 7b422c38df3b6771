/-
  The given law laws.FnExactParseWord returns true for every text: the program's ParseWord answers as the reference's. No condition.
-/
import Derived.Test.YtaegjapbkkfpdaaEvW
import Derived.Test.YtaegjapbkkfpdaaPlainB
import Derived.Test.YtaegjapbkkfpdaaG6
namespace Go.Proofs.Ytaegjapbkkfpdaa.Pure
open Go.RowKit Go.Proofs.Ytaegjapbkkfpdaa.G Go.Proofs.Ytaegjapbkkfpdaa.Plain Go.Proofs.YtaegjapbkkfpdaaW.PrintWords Go.Proofs.YtaegjapbkkfpdaaW.PrintLast

/-- The numbers that a text's first signs tell. -/
def readL (s : ByteArray) (k : Nat) : List Int := (List.range k).map fun (i : Nat) => bt s i - 97
theorem readL_succ (s : ByteArray) (k : Nat) : readL s (k + 1) = readL s k ++ [bt s k - 97] := by simp [readL, List.range_succ]
theorem readL_length (s : ByteArray) (k : Nat) : (readL s k).length = k := by simp [readL]
theorem readL_wf (s : ByteArray) (k : Nat) : wfB (readL s k) = true := by
  refine List.all_eq_true.2 fun x hx => ?_
  obtain ⟨i, _, rfl⟩ := List.mem_map.1 hx
  have := bt_range s i
  exact WalkArith.wf_i64 (by omega)
theorem wrap_bt (s : ByteArray) (i : Int) : wrap64 (wrap64 (bt s i) - 97) = bt s i - 97 := by
  have := bt_range s i
  rw [wrap_of (x := bt s i) (by omega) (by omega), wrap_of (by omega) (by omega)]
def readR (s : ByteArray) : List Int × Bool := if s.size ≤ 12 then (if isWordB (readL s s.size) = true then (readL s s.size, true) else ([], false)) else ([], false)
theorem specRead_loop (s : ByteArray) (hs : s.size ≤ 12) : ∀ (d k : Nat), k ≤ s.size → s.size - k = d → Ev (fun n => spec_l01Read.l0 n s (readL s k) k) (readR s) := by
  intro d
  induction d with
  | zero =>
    intro k hk hd
    have e : k = s.size := by omega
    subst e
    refine Ev.step (fun n => by rw [spec_l01Read.l0]) ?_
    refine Ev.ite_neg (by omega) (Ev.bind (ev_spec_l01Is _) ?_)
    by_cases h : isWordB (readL s s.size) = true
    · have e : readR s = (readL s s.size, true) := by unfold readR; rw [if_pos hs, if_pos h]
      rw [e]
      exact Ev.ite_pos h (Ev.now _)
    · have e : readR s = ([], false) := by unfold readR; rw [if_pos hs, if_neg h]
      rw [e]
      exact Ev.ite_neg h (Ev.now _)
  | succ d ih =>
    intro k hk hd
    refine Ev.step (fun n => by rw [spec_l01Read.l0]) ?_
    refine Ev.ite_pos (by omega) (Ev.ite_pos (by omega) (Ev.ite_pos (by rw [readL_length]; omega) ?_))
    have h := ih (k + 1) (by omega) (by omega)
    rw [readL_succ] at h
    rw [wrap_bt, wrap_of (x := (k : Int) + 1) (by omega) (by omega)]
    exact h
theorem ev_spec_l01Read (s : ByteArray) : Ev (fun n => spec_l01Read.f n s) (readR s) := by
  unfold spec_l01Read.f
  by_cases hs : s.size ≤ 12
  · exact Ev.ite_neg (by omega) (specRead_loop s hs s.size 0 (by omega) (by omega))
  · have e : readR s = ([], false) := by unfold readR; rw [if_neg hs]
    rw [e]
    exact Ev.ite_pos (by omega) (Ev.now _)
def readI (s : ByteArray) : List Int × Bool := if s.size ≤ 12 then (readL s s.size, isWordB (readL s s.size)) else ([], false)
theorem implRead_loop (s : ByteArray) (hs : s.size ≤ 12) : ∀ (d k : Nat), k ≤ s.size → s.size - k = d → Ev (fun n => impl_readWord.l0 n s (readL s k) (s.size : Int) k) (readI s) := by
  intro d
  induction d with
  | zero =>
    intro k hk hd
    have e : k = s.size := by omega
    subst e
    refine Ev.step (fun n => by rw [impl_readWord.l0]) ?_
    have e : readI s = (readL s s.size, isWordB (readL s s.size)) := by unfold readI; rw [if_pos hs]
    rw [e]
    exact Ev.ite_neg (by omega) (Ev.bind (ev_impl_IsWord _ (readL_wf _ _)) (Ev.now _))
  | succ d ih =>
    intro k hk hd
    refine Ev.step (fun n => by rw [impl_readWord.l0]) ?_
    refine Ev.ite_pos (by omega) (Ev.ite_pos (by omega) (Ev.ite_pos (by omega) (Ev.ite_pos (by rw [readL_length]; omega) ?_)))
    have h := ih (k + 1) (by omega) (by omega)
    rw [readL_succ] at h
    rw [wrap_bt, wrap_of (x := (k : Int) + 1) (by omega) (by omega)]
    exact h
theorem ev_impl_readWord (s : ByteArray) : Ev (fun n => impl_readWord.f n s) (readI s) := by
  unfold impl_readWord.f
  by_cases hs : s.size ≤ 12
  · exact Ev.ite_neg (by omega) (implRead_loop s hs s.size 0 (by omega) (by omega))
  · have e : readI s = ([], false) := by unfold readI; rw [if_neg hs]
    rw [e]
    exact Ev.ite_pos (by omega) (Ev.now _)
def ParseWordR (s : ByteArray) : List Int × Int := if s.size ≤ 12 ∧ isWordB (readL s s.size) = true then (readL s s.size, 0) else ([], 6)
theorem ParseWordR_le (s : ByteArray) (_ : s.size ≤ 1048576) : (ParseWordR s).1.length ≤ 12 := by
  unfold ParseWordR
  split
  · rename_i h; simpa [readL_length] using h.1
  · simp
theorem ev_spec_ParseWord (s : ByteArray) (_ : s.size ≤ 1048576) : Ev (fun n => spec_ParseWord.f n s) (ParseWordR s) := by
  unfold spec_ParseWord.f
  refine Ev.bind (ev_spec_l01Read s) ?_
  by_cases h : s.size ≤ 12 ∧ isWordB (readL s s.size) = true
  · have e : ParseWordR s = (readL s s.size, 0) := by unfold ParseWordR; rw [if_pos h]
    have e2 : readR s = (readL s s.size, true) := by unfold readR; rw [if_pos h.1, if_pos h.2]
    rw [e, e2]
    exact Ev.ite_pos rfl (Ev.now _)
  · have e : ParseWordR s = ([], 6) := by unfold ParseWordR; rw [if_neg h]
    have e2 : readR s = ([], false) := by
      unfold readR
      by_cases h1 : s.size ≤ 12
      · rw [if_pos h1, if_neg (fun h2 => h ⟨h1, h2⟩)]
      · rw [if_neg h1]
    rw [e, e2]
    exact Ev.ite_neg (by simp) (Ev.now _)
theorem ev_impl_ParseWord (s : ByteArray) (_ : s.size ≤ 1048576) : Ev (fun n => impl_ParseWord.f n s) (ParseWordR s) := by
  unfold impl_ParseWord.f
  refine Ev.bind (ev_impl_readWord s) ?_
  by_cases h : s.size ≤ 12 ∧ isWordB (readL s s.size) = true
  · have e : ParseWordR s = (readL s s.size, 0) := by unfold ParseWordR; rw [if_pos h]
    have e2 : readI s = (readL s s.size, true) := by unfold readI; rw [if_pos h.1, h.2]
    rw [e, e2]
    exact Ev.ite_pos rfl (Ev.now _)
  · have e : ParseWordR s = ([], 6) := by unfold ParseWordR; rw [if_neg h]
    have e2 : (readI s).2 = false := by
      unfold readI
      by_cases h1 : s.size ≤ 12
      · rw [if_pos h1]
        exact Bool.eq_false_iff.2 (fun h2 => h ⟨h1, h2⟩)
      · rw [if_neg h1]
    rw [e]
    exact Ev.ite_neg (by rw [e2]; simp) (Ev.now _)
theorem FnExactParseWord : laws_FnExactParseWord.Pure := by
  intro t0 hst0
  refine Ev.rounds ?_
  unfold laws_FnExactParseWord.f
  by_cases ht0 : t0.size ≤ 1048576
  rotate_left
  · exact Ev.ite_pos (by omega) (Ev.now _)
  have hr := ParseWordR_le t0 ht0
  have S := ev_spec_ParseWord t0 ht0
  have I := ev_impl_ParseWord t0 ht0 
  have ER := ev_eq_same (ParseWordR t0).1 (by omega)
  have MR := ev_markInt64S (ParseWordR t0).1 1 (by omega) (by omega)
  have HR := ev_heldInt64S (ParseWordR t0).1.length 1 (by omega) (by omega)
  repeat (first
    | exact Ev.now _
    | refine Ev.bind S ?_
    | refine Ev.bind I ?_
    | refine Ev.bind ER ?_
    | refine Ev.bind MR ?_
    | refine Ev.bind HR ?_
    | refine Ev.ite_pos rfl ?_
    | (refine Ev.ite_neg ?_ ?_; focus (first | (simp; done) | (simp; omega) | omega))
    | (apply Ev.step; focus (intro n; first | rw [laws_FnExactParseWord.j0] | rw [laws_FnExactParseWord.j1])))
end Go.Proofs.Ytaegjapbkkfpdaa.Pure
