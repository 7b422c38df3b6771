/-
  Plain laws of a word read backwards, and of the number of rotations that leave it. No condition but sizes.
-/
import Derived.Test.YtaegjapbkkfpdaaEvR
import Derived.Test.YtaegjapbkkfpdaaGgT
import Derived.Test.YtaegjapbkkfpdaaGgK
namespace Go.Proofs.Ytaegjapbkkfpdaa.Pure
open Go.RowKit Go.Proofs.Ytaegjapbkkfpdaa.G Go.Proofs.Ytaegjapbkkfpdaa.Plain Go.Proofs.YtaegjapbkkfpdaaW.PrintWords Go.Proofs.YtaegjapbkkfpdaaW.PrintLast

theorem back_loop (l : List Int) (hl : l.length ≤ 1048576) : ∀ k : Nat, k ≤ l.length → Ev (fun n => spec_l01Back.l0 n l ((l.drop k).reverse) ((k : Int) - 1)) l.reverse := by
  intro k
  induction k with
  | zero =>
    intro hk
    refine Ev.step (fun n => by rw [spec_l01Back.l0]) ?_
    refine Ev.ite_neg (by omega) ?_
    rw [List.drop_zero]
    exact Ev.now _
  | succ k ih =>
    intro hk
    refine Ev.step (fun n => by rw [spec_l01Back.l0]) ?_
    have e1 : ((k + 1 : Nat) : Int) - 1 = (k : Int) := by omega
    rw [e1]
    refine Ev.ite_pos (by omega) (Ev.ite_pos (by omega) (Ev.ite_pos (by omega) (Ev.ite_pos (by rw [List.length_reverse, List.length_drop]; omega) ?_)))
    rw [rd_at (show k < l.length by omega), wrap_of (by omega) (by omega)]
    have h := ih (by omega)
    rw [List.drop_eq_getElem_cons (show k < l.length by omega), List.reverse_cons] at h
    exact h
theorem ev_spec_l01Back (l : List Int) (hl : l.length ≤ 1048576) : Ev (fun n => spec_l01Back.f n l) l.reverse := by
  unfold spec_l01Back.f
  rw [wrap_of (by omega) (by omega)]
  have h := back_loop l hl l.length (Nat.le_refl _)
  rw [List.drop_length] at h
  exact h
/-- A word read backwards. -/
def backL (l : List Int) : List Int := normalL l.reverse
theorem backL_length (l : List Int) : (backL l).length = l.length := by unfold backL; rw [normalL_length, List.length_reverse]
theorem ev_spec_l01Reflect (l : List Int) (hl : l.length ≤ 1048576) : Ev (fun n => spec_l01Reflect.f n l) (backL l) := by
  unfold spec_l01Reflect.f
  exact Ev.bind (ev_spec_l01Back l hl) (Ev.bind (ev_spec_l01Normal _ (by rw [List.length_reverse]; omega)) (Ev.now _))
/-- A list whose ends are turned round already. -/
def turnL (l : List Int) (k : Nat) : List Int := l.reverse.take k ++ ((l.drop k).take (l.length - 2 * k) ++ l.reverse.drop (l.length - k))
theorem turnL_get (l : List Int) (k i : Nat) (hk : 2 * k ≤ l.length) (hi : i < l.length) : (turnL l k)[i]? = if i < k ∨ l.length - k ≤ i then l.reverse[i]? else l[i]? := by
  unfold turnL
  rw [List.getElem?_append, List.length_take, List.length_reverse, List.getElem?_append, List.length_take, List.length_drop]
  by_cases h1 : i < k
  · rw [if_pos (by omega), if_pos (Or.inl h1), List.getElem?_take_of_lt h1]
  · rw [if_neg (by omega)]
    by_cases h2 : l.length - k ≤ i
    · rw [if_neg (by omega), if_pos (Or.inr h2), List.getElem?_drop]
      congr 1
      omega
    · rw [if_pos (by omega), if_neg (by omega), List.getElem?_take_of_lt (by omega), List.getElem?_drop]
      congr 1
      omega
theorem turnL_length (l : List Int) (k : Nat) (hk : 2 * k ≤ l.length) : (turnL l k).length = l.length := by
  unfold turnL
  simp only [List.length_append, List.length_take, List.length_drop, List.length_reverse]
  omega
theorem turnL_zero (l : List Int) : turnL l 0 = l := by
  unfold turnL
  simp [List.drop_of_length_le]
theorem turnL_end (l : List Int) (k : Nat) (hk : 2 * k ≤ l.length) (hk2 : l.length ≤ 2 * k + 1) : turnL l k = l.reverse := by
  refine List.ext_getElem? fun i => ?_
  by_cases hi : i < l.length
  · rw [turnL_get l k i hk hi]
    split
    · rfl
    · have e : l.length - 1 - i = i := by omega
      rw [List.getElem?_reverse hi, e]
  · rw [List.getElem?_eq_none (by rw [turnL_length l k hk]; omega), List.getElem?_eq_none (by rw [List.length_reverse]; omega)]
theorem turnL_step (l : List Int) (k : Nat) (hk : 2 * k + 1 < l.length) : ((turnL l k).set k (rd (turnL l k) ((l.length - 1 - k : Nat) : Int))).set (l.length - 1 - k) (rd (turnL l k) k) = turnL l (k + 1) := by
  have hL := turnL_length l k (by omega)
  rw [rd_at (show l.length - 1 - k < (turnL l k).length by omega), rd_at (show k < (turnL l k).length by omega)]
  refine List.ext_getElem? fun i => ?_
  by_cases hi : i < l.length
  · rw [turnL_get l (k + 1) i (by omega) hi, List.getElem?_set, List.getElem?_set]
    have ha : (turnL l k)[l.length - 1 - k]? = l[l.length - 1 - k]? := by rw [turnL_get l k _ (by omega) (by omega), if_neg (by omega)]
    have hb : (turnL l k)[k]? = l[k]? := by rw [turnL_get l k _ (by omega) (by omega), if_neg (by omega)]
    rw [List.getElem?_eq_getElem (by omega)] at ha hb
    by_cases h1 : l.length - 1 - k = i
    · subst h1
      rw [if_pos rfl, if_pos (by rw [List.length_set]; omega), if_pos (by omega), List.getElem?_reverse (by omega)]
      have e : l.length - 1 - (l.length - 1 - k) = k := by omega
      rw [e]; exact hb
    · rw [if_neg h1]
      by_cases h2 : k = i
      · subst h2
        rw [if_pos rfl, if_pos (by omega), if_pos (by omega), List.getElem?_reverse (by omega)]
        exact ha
      · rw [if_neg h2, turnL_get l k i (by omega) hi]
        by_cases h3 : i < k ∨ l.length - k ≤ i
        · rw [if_pos h3, if_pos (by omega)]
        · rw [if_neg h3, if_neg (by omega)]
  · rw [List.getElem?_eq_none (by rw [List.length_set, List.length_set]; omega), List.getElem?_eq_none (by rw [turnL_length l _ (by omega)]; omega)]
theorem reverse_loop (l : List Int) (hl : l.length ≤ 1048576) : ∀ (d k : Nat), 2 * k ≤ l.length → l.length / 2 - k = d → Ev (fun n => slices_Reverse_int64_int64.l0 n (turnL l k) k ((l.length : Int) - 1 - k)) l.reverse := by
  intro d
  induction d with
  | zero =>
    intro k hk hd
    refine Ev.step (fun n => by rw [slices_Reverse_int64_int64.l0]) ?_
    refine Ev.ite_neg (by omega) ?_
    rw [turnL_end l k hk (by omega)]
    exact Ev.now _
  | succ d ih =>
    intro k hk hd
    have hL := turnL_length l k (by omega)
    refine Ev.step (fun n => by rw [slices_Reverse_int64_int64.l0]) ?_
    refine Ev.ite_pos (by omega) (Ev.ite_pos (by omega) (Ev.ite_pos (by omega) (Ev.ite_pos (by omega) (Ev.ite_pos (by omega) ?_))))
    have e1 : (l.length : Int) - 1 - k = ((l.length - 1 - k : Nat) : Int) := by omega
    have e2 : ((l.length - 1 - k : Nat) : Int) - 1 = (l.length : Int) - 1 - ((k + 1 : Nat) : Int) := by omega
    have e3 : (k : Int) + 1 = ((k + 1 : Nat) : Int) := by omega
    rw [e1, Int.toNat_natCast, Int.toNat_natCast, turnL_step l k (by omega), wrap_of (by omega) (by omega), wrap_of (by omega) (by omega), e2, e3]
    exact ih (k + 1) (by omega) (by omega)
theorem ev_slices_Reverse (l : List Int) (hl : l.length ≤ 1048576) : Ev (fun n => slices_Reverse_int64_int64.f n l) l.reverse := by
  unfold slices_Reverse_int64_int64.f
  rw [wrap_of (by omega) (by omega)]
  have h := reverse_loop l hl (l.length / 2) 0 (by omega) (by omega)
  rw [turnL_zero] at h
  simpa using h
theorem wfB_reverse {l : List Int} (h : wfB l = true) : wfB l.reverse = true := List.all_eq_true.2 fun x hx => List.all_eq_true.1 h x (List.mem_reverse.1 hx)
theorem ev_impl_reflected (l : List Int) (hl : l.length ≤ 1048576) (hw : wfB l = true) : Ev (fun n => impl_reflected.f n l) (backL l) := by
  unfold impl_reflected.f impl_reversed.f
  refine Ev.bind (Ev.bind (Ev.const (slices_Clone_f (by omega))) (Ev.bind (ev_slices_Reverse l hl) (Ev.now _))) ?_
  exact Ev.bind (Ev.const (impl_normal_f (wfB_reverse hw) (by rw [List.length_reverse]; omega))) (Ev.now _)
/-- How many of the rotations from k on leave the word. -/
def staysFrom (w : List Int) : Nat → Nat → Nat
  | 0, _ => 0
  | d + 1, k => (if rotL w k = w then 1 else 0) + staysFrom w d (k + 1)
/-- How many rotations leave the word: one at least. -/
def staysL (w : List Int) : Nat := max (staysFrom w w.length 0) 1
theorem staysFrom_le (w : List Int) : ∀ d k : Nat, staysFrom w d k ≤ d
  | 0, _ => Nat.le_refl _
  | d + 1, k => by
    have := staysFrom_le w d (k + 1)
    unfold staysFrom
    split <;> omega
theorem mx_nat (a : Nat) : mx (a : Int) 1 = ((max a 1 : Nat) : Int) := by unfold mx; split <;> omega
theorem stays_loop (w : List Int) (hl : w.length ≤ 1048576) (hw : wfB w = true) : ∀ (d k c : Nat), k ≤ w.length → w.length - k = d → c ≤ k → Ev (fun n => impl_stays.l0 n w c (w.length : Int) k) (((max (c + staysFrom w d k) 1 : Nat) : Int)) := by
  intro d
  induction d with
  | zero =>
    intro k c hk hd hc
    refine Ev.step (fun n => by rw [impl_stays.l0]) ?_
    refine Ev.ite_neg (by omega) ?_
    rw [mx_nat]
    exact Ev.now _
  | succ d ih =>
    intro k c hk hd hc
    refine Ev.step (fun n => by rw [impl_stays.l0]) ?_
    refine Ev.ite_pos (by omega) (Ev.bind (Ev.const (impl_rotated_f w k (by omega) hl hw)) (Ev.bind (ev_slices_Equal _ _ (by rw [rotL_length]; omega)) ?_))
    have e3 : (k : Int) + 1 = ((k + 1 : Nat) : Int) := by omega
    have e4 : (c : Int) + 1 = ((c + 1 : Nat) : Int) := by omega
    by_cases h : rotL w k = w
    · refine Ev.ite_pos (decide_eq_true h) ?_
      rw [wrap_of (by omega) (by omega), wrap_of (by omega) (by omega), e3, e4]
      have := ih (k + 1) (c + 1) (by omega) (by omega) (by omega)
      unfold staysFrom
      rw [if_pos h, show c + (1 + staysFrom w d (k + 1)) = c + 1 + staysFrom w d (k + 1) by omega]
      exact this
    · refine Ev.ite_neg (by simpa using h) ?_
      rw [wrap_of (by omega) (by omega), e3]
      have := ih (k + 1) c (by omega) (by omega) (by omega)
      unfold staysFrom
      rw [if_neg h, Nat.zero_add]
      exact this
theorem ev_impl_stays (w : List Int) (hl : w.length ≤ 1048576) (hw : wfB w = true) : Ev (fun n => impl_stays.f n w) (staysL w : Int) := by
  unfold impl_stays.f
  have h := stays_loop w hl hw w.length 0 0 (by omega) (by omega) (by omega)
  rw [Nat.zero_add] at h
  exact h
theorem stays_pos {w : List Int} (h : isWordB w = true) (hn : w ≠ []) : staysL w = staysFrom w w.length 0 := by
  unfold staysL
  cases hl : w.length with
  | zero => exact absurd (List.length_eq_zero_iff.1 hl) hn
  | succ n =>
    unfold staysFrom
    rw [if_pos (rotL_zero h)]
    omega
end Go.Proofs.Ytaegjapbkkfpdaa.Pure
