/-
  Plain laws of a word read backwards, and of the number of rotations that leave it. No condition but sizes.
-/
import Derived.Test.YtpfhbdpmafcnfaaTReEvR
import Derived.Test.YtpfhbdpmafcnfaaTReGgT
import Derived.Test.YtpfhbdpmafcnfaaTReGgK
namespace Go.Proofs.Ytpfhbdpmafcnfaa.Pure
open Go.RowKit Go.Proofs.Ytpfhbdpmafcnfaa.G Go.Proofs.Ytpfhbdpmafcnfaa.Plain Go.Proofs.YtpfhbdpmafcnfaaW.PrintWords Go.Proofs.YtpfhbdpmafcnfaaW.PrintLast

theorem back_loop (l : List Int) (hl : l.length ≤ 1048576) : ∀ k : Nat, k ≤ l.length → Ev (fun n => spec_l01Back.l0 n l ((l.drop k).reverse) ((k : Int) - 1)) l.reverse := by
  intro k
  induction k with
  | zero =>
    intro hk
    refine Ev.step (fun n => by rw [spec_l01Back.l0]) ?_
    refine Ev.ite_neg (by omega) ?_
    rw [List.drop_zero]
    exact Ev.now _
  | succ k ih =>
    intro hk
    refine Ev.step (fun n => by rw [spec_l01Back.l0]) ?_
    have e1 : ((k + 1 : Nat) : Int) - 1 = (k : Int) := by omega
    rw [e1]
    refine Ev.ite_pos (by omega) (Ev.ite_pos (by omega) (Ev.ite_pos (by omega) (Ev.ite_pos (by rw [List.length_reverse, List.length_drop]; omega) ?_)))
    rw [rd_at (show k < l.length by omega), wrap_of (by omega) (by omega)]
    have h := ih (by omega)
    rw [List.drop_eq_getElem_cons (show k < l.length by omega), List.reverse_cons] at h
    exact h
theorem ev_spec_l01Back (l : List Int) (hl : l.length ≤ 1048576) : Ev (fun n => spec_l01Back.f n l) l.reverse := by
  unfold spec_l01Back.f
  rw [wrap_of (by omega) (by omega)]
  have h := back_loop l hl l.length (Nat.le_refl _)
  rw [List.drop_length] at h
  exact h
/-- A word read backwards. -/
def backL (l : List Int) : List Int := normalL l.reverse
theorem ev_spec_l01Reflect (l : List Int) (hl : l.length ≤ 1048576) : Ev (fun n => spec_l01Reflect.f n l) (backL l) := by
  unfold spec_l01Reflect.f
  exact Ev.bind (ev_spec_l01Back l hl) (Ev.bind (ev_spec_l01Normal _ (by rw [List.length_reverse]; omega)) (Ev.now _))
/-- A list whose ends are turned round already. -/
def turnL (l : List Int) (k : Nat) : List Int := l.reverse.take k ++ ((l.drop k).take (l.length - 2 * k) ++ l.reverse.drop (l.length - k))
theorem turnL_get (l : List Int) (k i : Nat) (hk : 2 * k ≤ l.length) (hi : i < l.length) : (turnL l k)[i]? = if i < k ∨ l.length - k ≤ i then l.reverse[i]? else l[i]? := by
  unfold turnL
  rw [List.getElem?_append, List.length_take, List.length_reverse, List.getElem?_append, List.length_take, List.length_drop]
  by_cases h1 : i < k
  · rw [if_pos (by omega), if_pos (Or.inl h1), List.getElem?_take_of_lt h1]
  · rw [if_neg (by omega)]
    by_cases h2 : l.length - k ≤ i
    · rw [if_neg (by omega), if_pos (Or.inr h2), List.getElem?_drop]
      congr 1
      omega
    · rw [if_pos (by omega), if_neg (by omega), List.getElem?_take_of_lt (by omega), List.getElem?_drop]
      congr 1
      omega
theorem turnL_length (l : List Int) (k : Nat) (hk : 2 * k ≤ l.length) : (turnL l k).length = l.length := by
  unfold turnL
  simp only [List.length_append, List.length_take, List.length_drop, List.length_reverse]
  omega
theorem turnL_zero (l : List Int) : turnL l 0 = l := by
  unfold turnL
  simp [List.drop_of_length_le]
theorem turnL_end (l : List Int) (k : Nat) (hk : 2 * k ≤ l.length) (hk2 : l.length ≤ 2 * k + 1) : turnL l k = l.reverse := by
  refine List.ext_getElem? fun i => ?_
  by_cases hi : i < l.length
  · rw [turnL_get l k i hk hi]
    split
    · rfl
    · have e : l.length - 1 - i = i := by omega
      rw [List.getElem?_reverse hi, e]
  · rw [List.getElem?_eq_none (by rw [turnL_length l k hk]; omega), List.getElem?_eq_none (by rw [List.length_reverse]; omega)]
theorem turnL_step (l : List Int) (k : Nat) (hk : 2 * k + 1 < l.length) : ((turnL l k).set k (rd (turnL l k) ((l.length - 1 - k : Nat) : Int))).set (l.length - 1 - k) (rd (turnL l k) k) = turnL l (k + 1) := by
  have hL := turnL_length l k (by omega)
  rw [rd_at (show l.length - 1 - k < (turnL l k).length by omega), rd_at (show k < (turnL l k).length by omega)]
  refine List.ext_getElem? fun i => ?_
  by_cases hi : i < l.length
  · rw [turnL_get l (k + 1) i (by omega) hi, List.getElem?_set, List.getElem?_set]
    have ha : (turnL l k)[l.length - 1 - k]? = l[l.length - 1 - k]? := by rw [turnL_get l k _ (by omega) (by omega), if_neg (by omega)]
    have hb : (turnL l k)[k]? = l[k]? := by rw [turnL_get l k _ (by omega) (by omega), if_neg (by omega)]
    rw [List.getElem?_eq_getElem (by omega)] at ha hb
    by_cases h1 : l.length - 1 - k = i
    · subst h1
      rw [if_pos rfl, if_pos (by rw [List.length_set]; omega), if_pos (by omega), List.getElem?_reverse (by omega)]
      have e : l.length - 1 - (l.length - 1 - k) = k := by omega
      rw [e]; exact hb
    · rw [if_neg h1]
      by_cases h2 : k = i
      · subst h2
        rw [if_pos rfl, if_pos (by omega), if_pos (by omega), List.getElem?_reverse (by omega)]
        exact ha
      · rw [if_neg h2, turnL_get l k i (by omega) hi]
        by_cases h3 : i < k ∨ l.length - k ≤ i
        · rw [if_pos h3, if_pos (by omega)]
        · rw [if_neg h3, if_neg (by omega)]
  · rw [List.getElem?_eq_none (by rw [List.length_set, List.length_set]; omega), List.getElem?_eq_none (by rw [turnL_length l _ (by omega)]; omega)]
theorem reverse_loop (l : List Int) (hl : l.length ≤ 1048576) : ∀ (d k : Nat), 2 * k ≤ l.length → l.length / 2 - k = d → Ev (fun n => slices_Reverse_int64_int64.l0 n (turnL l k) k ((l.length : Int) - 1 - k)) l.reverse := by
  intro d
  induction d with
  | zero =>
    intro k hk hd
    refine Ev.step (fun n => by rw [slices_Reverse_int64_int64.l0]) ?_
    refine Ev.ite_neg (by omega) ?_
    rw [turnL_end l k hk (by omega)]
    exact Ev.now _
  | succ d ih =>
    intro k hk hd
    have hL := turnL_length l k (by omega)
    refine Ev.step (fun n => by rw [slices_Reverse_int64_int64.l0]) ?_
    refine Ev.ite_pos (by omega) (Ev.ite_pos (by omega) (Ev.ite_pos (by omega) (Ev.ite_pos (by omega) (Ev.ite_pos (by omega) ?_))))
    have e1 : (l.length : Int) - 1 - k = ((l.length - 1 - k : Nat) : Int) := by omega
    have e2 : ((l.length - 1 - k : Nat) : Int) - 1 = (l.length : Int) - 1 - ((k + 1 : Nat) : Int) := by omega
    have e3 : (k : Int) + 1 = ((k + 1 : Nat) : Int) := by omega
    rw [e1, Int.toNat_natCast, Int.toNat_natCast, turnL_step l k (by omega), wrap_of (by omega) (by omega), wrap_of (by omega) (by omega), e2, e3]
    exact ih (k + 1) (by omega) (by omega)
theorem ev_slices_Reverse (l : List Int) (hl : l.length ≤ 1048576) : Ev (fun n => slices_Reverse_int64_int64.f n l) l.reverse := by
  unfold slices_Reverse_int64_int64.f
  rw [wrap_of (by omega) (by omega)]
  have h := reverse_loop l hl (l.length / 2) 0 (by omega) (by omega)
  rw [turnL_zero] at h
  simpa using h
theorem wfB_reverse {l : List Int} (h : wfB l = true) : wfB l.reverse = true := List.all_eq_true.2 fun x hx => List.all_eq_true.1 h x (List.mem_reverse.1 hx)
theorem ev_impl_reflected (l : List Int) (hl : l.length ≤ 1048576) (hw : wfB l = true) : Ev (fun n => impl_reflected.f n l) (backL l) := by
  unfold impl_reflected.f impl_reversed.f
  refine Ev.bind (Ev.bind (Ev.const (slices_Clone_f (by omega))) (Ev.bind (ev_slices_Reverse l hl) (Ev.now _))) ?_
  exact Ev.bind (Ev.const (impl_normal_f (wfB_reverse hw) (by rw [List.length_reverse]; omega))) (Ev.now _)
end Go.Proofs.Ytpfhbdpmafcnfaa.Pure
