/-
  The given law laws.FnExactWordText returns true for every list: the program's WordText answers as the reference's. No condition.
-/
import Derived.Test.YtaegjapbkkfpdaaEvW
import Derived.Test.YtaegjapbkkfpdaaPlainB
import Derived.Test.YtaegjapbkkfpdaaG5
namespace Go.Proofs.Ytaegjapbkkfpdaa.Pure
open Go.RowKit Go.Proofs.Ytaegjapbkkfpdaa.G Go.Proofs.Ytaegjapbkkfpdaa.Plain Go.Proofs.YtaegjapbkkfpdaaW.PrintWords Go.Proofs.YtaegjapbkkfpdaaW.PrintLast

/-- The signs of a word. -/
def signsL (l : List Int) : List Int := l.map fun x => (97 + x) % 256
theorem signsL_take {l : List Int} {k : Nat} (h : k < l.length) : signsL (l.take (k + 1)) = signsL (l.take k) ++ [(97 + l[k]) % 256] := by
  rw [List.take_succ_eq_append_getElem h]; unfold signsL; rw [List.map_append]; rfl
theorem signsL_length (l : List Int) : (signsL l).length = l.length := by simp [signsL]
theorem wrap_mod (x : Int) : wrap64 x % 256 = x % 256 := by unfold wrap64; omega
theorem specText_loop (l : List Int) (hl : l.length ≤ 1048576) : ∀ (d k : Nat), k ≤ l.length → l.length - k = d → Ev (fun n => spec_l01Text.l0 n l (signsL (l.take k)) k) (strOfNums (signsL l)) := by
  intro d
  induction d with
  | zero =>
    intro k hk hd
    have e : k = l.length := by omega
    subst e
    refine Ev.step (fun n => by rw [spec_l01Text.l0]) ?_
    refine Ev.ite_neg (by omega) ?_
    rw [List.take_length]
    exact Ev.now _
  | succ d ih =>
    intro k hk hd
    have hlt : k < l.length := by omega
    refine Ev.step (fun n => by rw [spec_l01Text.l0]) ?_
    refine Ev.ite_pos (by omega) (Ev.ite_pos (by omega) (Ev.ite_pos (by rw [signsL_length, List.length_take]; omega) ?_))
    have h := ih (k + 1) (by omega) (by omega)
    rw [signsL_take hlt] at h
    rw [rd_at hlt, wrap_of (x := (k : Int) + 1) (by omega) (by omega), wrap_mod]
    exact h
theorem ev_spec_l01Text (l : List Int) (hl : l.length ≤ 1048576) : Ev (fun n => spec_l01Text.f n l) (strOfNums (signsL l)) := by
  unfold spec_l01Text.f
  exact specText_loop l hl l.length 0 (by omega) (by omega)
theorem implText_loop (l : List Int) (hl : l.length ≤ 1048576) : ∀ (d k : Nat), k ≤ l.length → l.length - k = d → Ev (fun n => impl_wordText.l0 n (signsL (l.take k)) l (l.length : Int) k) (strOfNums (signsL l)) := by
  intro d
  induction d with
  | zero =>
    intro k hk hd
    have e : k = l.length := by omega
    subst e
    refine Ev.step (fun n => by rw [impl_wordText.l0]) ?_
    refine Ev.ite_neg (by omega) ?_
    rw [List.take_length]
    exact Ev.now _
  | succ d ih =>
    intro k hk hd
    have hlt : k < l.length := by omega
    refine Ev.step (fun n => by rw [impl_wordText.l0]) ?_
    refine Ev.ite_pos (by omega) (Ev.ite_pos (by omega) (Ev.ite_pos (by omega) (Ev.ite_pos (by rw [signsL_length, List.length_take]; omega) ?_)))
    have h := ih (k + 1) (by omega) (by omega)
    rw [signsL_take hlt] at h
    rw [rd_at hlt, wrap_of (x := (k : Int) + 1) (by omega) (by omega)]
    exact h
theorem ev_impl_wordText (l : List Int) (hl : l.length ≤ 1048576) : Ev (fun n => impl_wordText.f n l) (strOfNums (signsL l)) := by
  unfold impl_wordText.f
  exact implText_loop l hl l.length 0 (by omega) (by omega)
def WordTextR (l : List Int) : ByteArray × Int := if isWordB l = true then (strOfNums (signsL l), 0) else (⟨#[]⟩, 1)
theorem ev_spec_WordText (l : List Int) (hl : l.length ≤ 1048576) : Ev (fun n => spec_WordText.f n l) (WordTextR l) := by
  unfold spec_WordText.f
  refine Ev.bind (ev_spec_l01Is l) ?_
  by_cases h : isWordB l = true
  · have e : WordTextR l = (strOfNums (signsL l), 0) := by unfold WordTextR; rw [if_pos h]
    rw [e]
    exact Ev.ite_pos h (Ev.bind (ev_spec_l01Text l hl) (Ev.now _))
  · have e : WordTextR l = (⟨#[]⟩, 1) := by unfold WordTextR; rw [if_neg h]
    rw [e]
    exact Ev.ite_neg h (Ev.now _)
theorem ev_impl_WordText (l : List Int) (hl : l.length ≤ 1048576) (hw : wfB l = true) : Ev (fun n => impl_WordText.f n l) (WordTextR l) := by
  unfold impl_WordText.f
  refine Ev.bind (ev_impl_IsWord l hw) ?_
  by_cases h : isWordB l = true
  · have e : WordTextR l = (strOfNums (signsL l), 0) := by unfold WordTextR; rw [if_pos h]
    rw [e]
    exact Ev.ite_pos h (Ev.bind (ev_impl_wordText l hl) (Ev.now _))
  · have e : WordTextR l = (⟨#[]⟩, 1) := by unfold WordTextR; rw [if_neg h]
    rw [e]
    exact Ev.ite_neg h (Ev.now _)
theorem FnExactWordText : laws_FnExactWordText.Pure := by
  intro l0 hml0 hsl0 hwl0
  have hfl0 : wfB l0 = true := List.all_eq_true.2 hwl0
  refine Ev.rounds ?_
  unfold laws_FnExactWordText.f
  by_cases hl0 : l0.length ≤ 1048576
  rotate_left
  · exact Ev.ite_pos (by omega) (Ev.now _)
  have S := ev_spec_WordText l0 hl0
  have I := ev_impl_WordText l0 hl0 hfl0
  have Tl0 := ev_toInt64S l0 (by omega)
  have El0 := ev_eq_same l0 (by omega)
  have Ml0 := ev_markInt64S l0 1 (by omega) (by omega)
  repeat (first
    | exact Ev.now _
    | refine Ev.bind Tl0 ?_
    | refine Ev.bind S ?_
    | refine Ev.bind I ?_
    | refine Ev.bind El0 ?_
    | refine Ev.bind Ml0 ?_
    | refine Ev.ite_pos rfl ?_
    | (refine Ev.ite_neg ?_ ?_; focus (first | (simp; done) | (simp; omega) | omega))
    | (apply Ev.step; focus (intro n; first | rw [laws_FnExactWordText.j0])))
end Go.Proofs.Ytaegjapbkkfpdaa.Pure
