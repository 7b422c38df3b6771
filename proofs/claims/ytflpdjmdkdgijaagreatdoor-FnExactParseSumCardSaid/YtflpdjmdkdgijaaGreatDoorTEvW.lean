/-
  Plain laws of words: the reference's and the program's tests of a word, and the normal word. No condition but sizes.
-/
import Derived.Test.YtflpdjmdkdgijaaGreatDoorTEvA
import Derived.Test.YtflpdjmdkdgijaaGreatDoorTPlainB
import Derived.Test.YtflpdjmdkdgijaaGreatDoorTGgS
import Derived.Test.YtflpdjmdkdgijaaGreatDoorTGgI
namespace Go.Proofs.YtflpdjmdkdgijaaGreatDoor.Pure
open Go.RowKit Go.Proofs.YtflpdjmdkdgijaaGreatDoor.G Go.Proofs.YtflpdjmdkdgijaaGreatDoor.Plain Go.Proofs.YtflpdjmdkdgijaaGreatDoorW.PrintWords Go.Proofs.YtflpdjmdkdgijaaGreatDoorW.PrintLast

theorem count_take {l : List Int} {j : Nat} (hj : j < l.length) (x : Int) : (l.take (j + 1)).count x = (l.take j).count x + if l[j] = x then 1 else 0 := by
  rw [List.take_succ_eq_append_getElem hj, List.count_append, List.count_singleton]
  congr 1
  by_cases e : l[j] = x <;> simp [e]
theorem twice_inner (l : List Int) (hl : l.length ≤ 9223372036854775806) (i : Nat) (hi : i < l.length) (r : Bool) (h2 : l.count l[i] = 2 → Ev (fun n => spec_l01Twice.l0 n l ((i : Int) + 1)) r) (h3 : l.count l[i] ≠ 2 → r = false) :
    ∀ (d j : Nat), j ≤ l.length → l.length - j = d → Ev (fun n => spec_l01Twice.l1 n l i ((l.take j).count l[i] : Nat) j) r := by
  intro d
  induction d with
  | zero =>
    intro j hj hd
    have e : j = l.length := by omega
    subst e
    refine Ev.step (fun n => by rw [spec_l01Twice.l1]) ?_
    refine Ev.ite_neg (by omega) ?_
    rw [List.take_length]
    by_cases hc : l.count l[i] = 2
    · refine Ev.ite_pos (by omega) ?_
      rw [wrap_of (by omega) (by omega)]
      exact h2 hc
    · refine Ev.ite_neg (by omega) ?_
      rw [h3 hc]
      exact Ev.now _
  | succ d ih =>
    intro j hj hd
    refine Ev.step (fun n => by rw [spec_l01Twice.l1]) ?_
    refine Ev.ite_pos (by omega) (Ev.ite_pos (by omega) (Ev.ite_pos (by omega) (Ev.ite_pos (by omega) ?_)))
    rw [rd_at (show j < l.length by omega), rd_at hi]
    have hc := count_take (show j < l.length by omega) l[i]
    have hle : (l.take j).count l[i] ≤ j := Nat.le_trans List.count_le_length (List.length_take_le _ _)
    have h := ih (j + 1) (by omega) (by omega)
    by_cases e : l[j] = l[i]
    · refine Ev.ite_pos e ?_
      rw [if_pos e] at hc
      rw [hc] at h
      rw [wrap_of (by omega) (by omega), wrap_of (by omega) (by omega)]
      exact h
    · refine Ev.ite_neg e ?_
      rw [if_neg e] at hc
      rw [hc] at h
      rw [wrap_of (by omega) (by omega)]
      exact h
theorem twice_loop (l : List Int) (hl : l.length ≤ 9223372036854775806) : ∀ (d i : Nat), i ≤ l.length → l.length - i = d → Ev (fun n => spec_l01Twice.l0 n l i) ((l.drop i).all fun x => l.count x == 2) := by
  intro d
  induction d with
  | zero =>
    intro i hi hd
    have e : i = l.length := by omega
    subst e
    refine Ev.step (fun n => by rw [spec_l01Twice.l0]) ?_
    refine Ev.ite_neg (by omega) ?_
    rw [List.drop_length]
    exact Ev.now _
  | succ d ih =>
    intro i hi hd
    refine Ev.step (fun n => by rw [spec_l01Twice.l0]) ?_
    refine Ev.ite_pos (by omega) ?_
    have hlt : i < l.length := by omega
    have hdr := List.drop_eq_getElem_cons hlt
    have h := twice_inner l hl i hlt ((l.drop i).all fun x => l.count x == 2) (fun hc => by
      have h2 := ih (i + 1) (by omega) (by omega)
      have e : ((l.drop i).all fun x => l.count x == 2) = ((l.drop (i + 1)).all fun x => l.count x == 2) := by
        rw [hdr, List.all_cons, hc]
        rfl
      rw [e]
      exact h2) (fun hc => by
        rw [hdr, List.all_cons]
        simp [hc]) l.length 0 (by omega) (by omega)
    simpa using h
theorem ev_spec_l01Twice (l : List Int) (hl : l.length ≤ 9223372036854775806) : Ev (fun n => spec_l01Twice.f n l) (twiceB l) := by
  unfold spec_l01Twice.f
  exact twice_loop l hl l.length 0 (by omega) (by omega)

/-- The place of a number among those that were met: as the reference looks for it. -/
def lastAt (m : List Int) (x : Int) (k : Nat) : Int := if x ∈ m.take k then ((m.idxOf x : Nat) : Int) else -1
theorem lastAt_step {m : List Int} (hm : m.Nodup) {x : Int} {k : Nat} (hk : k < m.length) : lastAt m x (k + 1) = if m[k] = x then (k : Int) else lastAt m x k := by
  unfold lastAt
  rw [List.take_succ_eq_append_getElem hk]
  by_cases e : m[k] = x
  · rw [if_pos e, if_pos (by simp [e]), ← e, idxOf_at hm hk]
  · rw [if_neg e]
    have : (x ∈ m.take k ++ [m[k]]) ↔ x ∈ m.take k := by simp only [List.mem_append, List.mem_singleton, Ne.symm e, or_false]
    by_cases h : x ∈ m.take k
    · rw [if_pos h, if_pos (this.2 h)]
    · rw [if_neg h, if_neg (fun h' => h (this.1 h'))]
theorem normal_inner (l met out : List Int) (hm : met.Nodup) (hml : met.length ≤ 17592186044415) (hol : out.length ≤ 17592186044415) (i : Nat) (hi : i < l.length) (hl : l.length ≤ 9223372036854775806) (r : List Int)
    (h : Ev (fun n => spec_l01Normal.l0 n l (if met.contains l[i] then met else met ++ [l[i]]) (out ++ [((met.idxOf l[i] : Nat) : Int)]) ((i : Int) + 1)) r) :
    ∀ (d j : Nat), j ≤ met.length → met.length - j = d → Ev (fun n => spec_l01Normal.l1 n l met out i (lastAt met l[i] j) j) r := by
  intro d
  induction d with
  | zero =>
    intro j hj hd
    have e : j = met.length := by omega
    subst e
    refine Ev.step (fun n => by rw [spec_l01Normal.l1]) ?_
    refine Ev.ite_neg (by omega) ?_
    have hla : lastAt met l[i] met.length = if l[i] ∈ met then ((met.idxOf l[i] : Nat) : Int) else -1 := by unfold lastAt; rw [List.take_length]
    rw [hla]
    by_cases hc : l[i] ∈ met
    · rw [if_pos hc]
      refine Ev.ite_neg (by omega) (Ev.ite_pos (by omega) ?_)
      rw [if_pos (by simpa using hc)] at h
      rw [wrap_of (by omega) (by omega)]
      exact h
    · rw [if_neg hc]
      refine Ev.ite_pos (by omega) (Ev.ite_pos (by omega) (Ev.ite_pos (by omega) (Ev.ite_pos (by omega) (Ev.ite_pos (by omega) ?_))))
      rw [if_neg (by simpa using hc), List.idxOf_eq_length hc] at h
      rw [rd_at hi, wrap_of (by omega) (by omega)]
      exact h
  | succ d ih =>
    intro j hj hd
    refine Ev.step (fun n => by rw [spec_l01Normal.l1]) ?_
    refine Ev.ite_pos (by omega) (Ev.ite_pos (by omega) (Ev.ite_pos (by omega) (Ev.ite_pos (by omega) ?_)))
    rw [rd_at hi, rd_at (show j < met.length by omega)]
    have h1 := ih (j + 1) (by omega) (by omega)
    rw [lastAt_step hm (show j < met.length by omega)] at h1
    by_cases e : met[j] = l[i]
    · refine Ev.ite_pos e ?_
      rw [if_pos e] at h1
      rw [wrap_of (by omega) (by omega)]
      exact h1
    · refine Ev.ite_neg e ?_
      rw [if_neg e] at h1
      rw [wrap_of (by omega) (by omega)]
      exact h1
theorem normal_loop (l : List Int) (hl : l.length ≤ 17592186044416) : ∀ (d i : Nat), i ≤ l.length → l.length - i = d → Ev (fun n => spec_l01Normal.l0 n l (firsts (l.take i)) (normalL (l.take i)) i) (normalL l) := by
  intro d
  induction d with
  | zero =>
    intro i hi hd
    have e : i = l.length := by omega
    subst e
    refine Ev.step (fun n => by rw [spec_l01Normal.l0]) ?_
    refine Ev.ite_neg (by omega) ?_
    rw [List.take_length]
    exact Ev.now _
  | succ d ih =>
    intro i hi hd
    have hlt : i < l.length := by omega
    refine Ev.step (fun n => by rw [spec_l01Normal.l0]) ?_
    refine Ev.ite_pos (by omega) ?_
    have hfl := firsts_length_le (l.take i)
    have hnl := normalL_length (l.take i)
    have htl := List.length_take_le i l
    have h := normal_inner l (firsts (l.take i)) (normalL (l.take i)) (firsts_nodup _) (by omega) (by omega) i hlt (by omega) (normalL l) (by
      have h2 := ih (i + 1) (by omega) (by omega)
      rw [List.take_succ_eq_append_getElem hlt, firsts_snoc, normalL_snoc] at h2
      exact h2) (firsts (l.take i)).length 0 (by omega) (by omega)
    simpa [lastAt] using h
theorem ev_spec_l01Normal (l : List Int) (hl : l.length ≤ 17592186044416) : Ev (fun n => spec_l01Normal.f n l) (normalL l) := by
  unfold spec_l01Normal.f
  exact normal_loop l hl l.length 0 (by omega) (by omega)
theorem same_loop (a b : List Int) (hl : a.length ≤ 9223372036854775807) (he : a.length = b.length) : ∀ (d k : Nat), k ≤ a.length → a.length - k = d → Ev (fun n => spec_l01Same.l0 n a b k) (decide (a.drop k = b.drop k)) := by
  intro d
  induction d with
  | zero =>
    intro k hk hd
    have e : k = a.length := by omega
    subst e
    refine Ev.step (fun n => by rw [spec_l01Same.l0]) ?_
    refine Ev.ite_neg (by omega) ?_
    refine Ev.const ?_
    rw [List.drop_length, he, List.drop_length]
    rfl
  | succ d ih =>
    intro k hk hd
    refine Ev.step (fun n => by rw [spec_l01Same.l0]) ?_
    refine Ev.ite_pos (by omega) (Ev.ite_pos (by omega) (Ev.ite_pos (by omega) ?_))
    rw [rd_at (show k < a.length by omega), rd_at (show k < b.length by omega)]
    have ha := List.drop_eq_getElem_cons (show k < a.length by omega)
    have hb := List.drop_eq_getElem_cons (show k < b.length by omega)
    by_cases e : a[k] = b[k]
    · refine Ev.ite_pos e ?_
      rw [wrap_of (by omega) (by omega)]
      have h := ih (k + 1) (by omega) (by omega)
      have e2 : decide (a.drop k = b.drop k) = decide (a.drop (k + 1) = b.drop (k + 1)) := by
        rw [ha, hb, e]
        simp only [List.cons.injEq, true_and]
      rw [e2]
      exact h
    · refine Ev.ite_neg e ?_
      refine Ev.const ?_
      have e2 : decide (a.drop k = b.drop k) = false := by
        rw [ha, hb]
        simp only [List.cons.injEq, e, false_and, decide_false]
      rw [e2]
theorem ev_spec_l01Same (a b : List Int) (hl : a.length ≤ 9223372036854775807) : Ev (fun n => spec_l01Same.f n a b) (decide (a = b)) := by
  unfold spec_l01Same.f
  by_cases he : a.length = b.length
  · refine Ev.ite_pos (by omega) ?_
    have h := same_loop a b hl he a.length 0 (by omega) (by omega)
    simpa using h
  · refine Ev.ite_neg (by omega) ?_
    refine Ev.const ?_
    have : a ≠ b := fun e => he (by rw [e])
    simp [this]
theorem equal_loop (a b : List Int) (hl : a.length ≤ 9223372036854775807) (he : a.length = b.length) : ∀ (d k : Nat), k ≤ a.length → a.length - k = d → Ev (fun n => slices_Equal_int64_int64.l0 n a b (a.length : Int) k) (decide (a.drop k = b.drop k)) := by
  intro d
  induction d with
  | zero =>
    intro k hk hd
    have e : k = a.length := by omega
    subst e
    refine Ev.step (fun n => by rw [slices_Equal_int64_int64.l0]) ?_
    refine Ev.ite_neg (by omega) ?_
    refine Ev.const ?_
    rw [List.drop_length, he, List.drop_length]
    rfl
  | succ d ih =>
    intro k hk hd
    refine Ev.step (fun n => by rw [slices_Equal_int64_int64.l0]) ?_
    refine Ev.ite_pos (by omega) (Ev.ite_pos (by omega) (Ev.ite_pos (by omega) (Ev.ite_pos (by omega) ?_)))
    rw [rd_at (show k < a.length by omega), rd_at (show k < b.length by omega)]
    have ha := List.drop_eq_getElem_cons (show k < a.length by omega)
    have hb := List.drop_eq_getElem_cons (show k < b.length by omega)
    by_cases e : a[k] = b[k]
    · refine Ev.ite_pos e ?_
      rw [wrap_of (by omega) (by omega)]
      have h := ih (k + 1) (by omega) (by omega)
      have e2 : decide (a.drop k = b.drop k) = decide (a.drop (k + 1) = b.drop (k + 1)) := by
        rw [ha, hb, e]
        simp only [List.cons.injEq, true_and]
      rw [e2]
      exact h
    · refine Ev.ite_neg e ?_
      refine Ev.const ?_
      have e2 : decide (a.drop k = b.drop k) = false := by
        rw [ha, hb]
        simp only [List.cons.injEq, e, false_and, decide_false]
      rw [e2]
theorem ev_slices_Equal (a b : List Int) (hl : a.length ≤ 9223372036854775807) : Ev (fun n => slices_Equal_int64_int64.f n a b) (decide (a = b)) := by
  unfold slices_Equal_int64_int64.f
  by_cases he : a.length = b.length
  · refine Ev.ite_pos (by omega) ?_
    have h := equal_loop a b hl he a.length 0 (by omega) (by omega)
    simpa using h
  · refine Ev.ite_neg (by omega) ?_
    refine Ev.const ?_
    have : a ≠ b := fun e => he (by rw [e])
    simp [this]
theorem ev_spec_l01Is (l : List Int) : Ev (fun n => spec_l01Is.f n l) (isWordB l) := by
  unfold spec_l01Is.f isWordB
  by_cases h : l.length ≤ 12
  · refine Ev.ite_pos (by omega) (Ev.bind (ev_spec_l01Twice l (by omega)) ?_)
    by_cases ht : twiceB l = true
    · refine Ev.ite_pos ht (Ev.bind (ev_spec_l01Normal l (by omega)) (Ev.bind (ev_spec_l01Same _ _ (by rw [normalL_length]; omega)) (Ev.const ?_)))
      simp [h, ht]
    · refine Ev.ite_neg ht (Ev.const ?_)
      simp [ht]
  · refine Ev.ite_neg (by omega) (Ev.const ?_)
    simp [h]
theorem impl_twice_f {l : List Int} (hw : wfB l = true) : impl_twice.f l = some (twiceB l) := by unfold impl_twice.f; rw [if_pos hw]
theorem impl_normal_f {l : List Int} (hw : wfB l = true) (hl : l.length ≤ 17592186044416) : impl_normal.f l = some (normalL l) := by unfold impl_normal.f; rw [if_pos ⟨hw, hl⟩]
theorem ev_impl_IsWord (l : List Int) (hw : wfB l = true) : Ev (fun n => impl_IsWord.f n l) (isWordB l) := by
  unfold impl_IsWord.f isWordB
  by_cases h : l.length ≤ 12
  · refine Ev.ite_pos (by omega) (Ev.bind (Ev.const (impl_twice_f hw)) ?_)
    by_cases ht : twiceB l = true
    · refine Ev.ite_pos ht (Ev.bind (Ev.const (impl_normal_f hw (by omega))) (Ev.bind (ev_slices_Equal _ _ (by rw [normalL_length]; omega)) (Ev.const ?_)))
      simp [h, ht]
    · refine Ev.ite_neg ht (Ev.const ?_)
      simp [ht]
  · refine Ev.ite_neg (by omega) (Ev.const ?_)
    simp [h]
end Go.Proofs.YtflpdjmdkdgijaaGreatDoor.Pure
