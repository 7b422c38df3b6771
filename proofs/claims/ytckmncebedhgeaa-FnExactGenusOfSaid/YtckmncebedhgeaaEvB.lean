/-
  Plain laws of border circles: the road from place to place, and how many circles it runs through. No condition but sizes.
-/
import Derived.Test.YtckmncebedhgeaaEvP
import Derived.Test.YtckmncebedhgeaaPlainX
import Derived.Test.YtckmncebedhgeaaPlainC2
import Derived.Test.YtckmncebedhgeaaG86
import Derived.Test.YtckmncebedhgeaaG84
import Derived.Test.YtckmncebedhgeaaGgS
namespace Go.Proofs.Ytckmncebedhgeaa.Pure
open Go.RowKit Go.Proofs.Ytckmncebedhgeaa.G Go.Proofs.Ytckmncebedhgeaa.Plain Go.Proofs.YtckmncebedhgeaaW.PrintWords Go.Proofs.YtckmncebedhgeaaW.PrintLast

theorem ev_spec_l02Code (w : List Int) : Ev (fun n => spec_l02Code.f n w) (if isWordB w = true then 0 else 1) := by
  unfold spec_l02Code.f
  refine Ev.bind (ev_spec_l01Is w) ?_
  by_cases h : isWordB w = true
  · refine Ev.ite_pos h ?_
    rw [if_pos h]; exact Ev.now _
  · refine Ev.ite_neg h ?_
    rw [if_neg h]; exact Ev.now _
/-- The other place of the chord that stands at a place. -/
def otherP (w : List Int) (k : Nat) : Nat := fstP w (w.getD k 0) + sndP w (w.getD k 0) - k
theorem word_at {w : List Int} {k : Nat} (hk : k < w.length) : w.getD k 0 = w[k] := by
  rw [List.getD_eq_getElem?_getD, List.getElem?_eq_getElem hk]; rfl
theorem word_at_count {w : List Int} (h : isWordB w = true) {k : Nat} (hk : k < w.length) : w.count w[k] = 2 := count_of_twice (word_twice h) (List.getElem_mem hk)
theorem place_of {w : List Int} (h : isWordB w = true) {k : Nat} (hk : k < w.length) : k = fstP w w[k] ∨ k = sndP w w[k] :=
  (place_iff (word_at_count h hk) k).1 (List.getElem?_eq_getElem hk)
theorem otherP_lt {w : List Int} (h : isWordB w = true) {k : Nat} (hk : k < w.length) : otherP w k < w.length := by
  have h1 := sndP_lt (word_at_count h hk)
  unfold otherP
  rw [word_at hk]
  rcases place_of h hk with h2 | h2 <;> omega
def othersL (w : List Int) : List Int := (List.range w.length).map fun k => ((otherP w k : Nat) : Int)
theorem othersL_length (w : List Int) : (othersL w).length = w.length := by simp [othersL]
theorem mates_loop (w : List Int) (h : isWordB w = true) : ∀ (d i : Nat) (M : List Int), i ≤ w.length / 2 → w.length / 2 - i = d → M.length = w.length → (∀ k (hk : k < w.length), w[k] < (i : Int) → M[k]? = some ((otherP w k : Nat) : Int)) →
    Ev (fun n => impl_mates.l0 n w M ((w.length / 2 : Nat) : Int) i) (othersL w) := by
  have hlen := word_length h
  intro d
  induction d with
  | zero =>
    intro i M hi hd hM hP
    obtain rfl : i = w.length / 2 := by omega
    refine Ev.step (fun n => by rw [impl_mates.l0]) ?_
    refine Ev.ite_neg (by omega) ?_
    have e : M = othersL w := by
      apply List.ext_getElem?
      intro k
      by_cases hk : k < w.length
      · rw [hP k hk (word_mem h (List.getElem_mem hk)).2]
        unfold othersL
        rw [List.getElem?_map, List.getElem?_range hk]
        rfl
      · rw [List.getElem?_eq_none (by omega), List.getElem?_eq_none (by rw [othersL_length]; omega)]
    rw [e]
    exact Ev.now _
  | succ d ih =>
    intro i M hi hd hM hP
    have ci := word_count h (x := (i : Int)) (by omega) (by omega)
    have hp := sndP_lt ci
    refine Ev.step (fun n => by rw [impl_mates.l0]) ?_
    refine Ev.ite_pos (by omega) (Ev.bind (ev_impl_places w i (by omega) ci) (Ev.ite_pos (by omega) (Ev.ite_pos (by omega) (Ev.ite_pos (by omega) (Ev.ite_pos (by omega) ?_)))))
    rw [Int.toNat_natCast, Int.toNat_natCast, wrap_of (by omega) (by omega)]
    refine ih (i + 1) _ (by omega) (by omega) (by simp [hM]) ?_
    intro k hk hlt
    by_cases e : w[k] = (i : Int)
    · have ho : otherP w k = fstP w i + sndP w i - k := by unfold otherP; rw [word_at hk, e]
      rcases place_of h hk with h2 | h2
      · rw [e] at h2
        rw [List.getElem?_set_ne (by omega), ho, h2, List.getElem?_set_self (by omega)]
        congr 2; omega
      · rw [e] at h2
        rw [ho, h2, List.getElem?_set_self (by rw [List.length_set]; omega)]
        congr 2; omega
    · have n1 : k ≠ fstP w i := fun e2 => e (by have := place_fst ci; rw [← e2, List.getElem?_eq_getElem hk] at this; exact Option.some.inj this)
      have n2 : k ≠ sndP w i := fun e2 => e (by have := place_snd ci; rw [← e2, List.getElem?_eq_getElem hk] at this; exact Option.some.inj this)
      rw [List.getElem?_set_ne (Ne.symm n2), List.getElem?_set_ne (Ne.symm n1)]
      exact hP k hk (by omega)
theorem ev_impl_mates (w : List Int) (h : isWordB w = true) : Ev (fun n => impl_mates.f n w) (othersL w) := by
  have hlen := word_length h
  unfold impl_mates.f impl_chords.f
  rw [half_wrap (by omega)]
  refine Ev.ite_pos (by omega) (Ev.ite_pos (by omega) (Ev.bind (Ev.now _) ?_))
  refine mates_loop w h (w.length / 2) 0 _ (by omega) (by omega) (by simp) ?_
  intro k hk hlt
  have := (word_mem h (List.getElem_mem hk)).1
  omega
/-- Where the road leads from a place: behind the other place of its chord. -/
def nextP (w : List Int) (k : Nat) : Nat := (otherP w k + 1) % w.length
def nextsL (w : List Int) (i : Nat) : List Int := (List.range w.length).map fun k => (((if k < i then nextP w k else otherP w k) : Nat) : Int)
theorem nextsL_length (w : List Int) (i : Nat) : (nextsL w i).length = w.length := by simp [nextsL]
theorem nextsL_get (w : List Int) {i k : Nat} (hk : k < w.length) : rd (nextsL w i) k = (((if k < i then nextP w k else otherP w k) : Nat) : Int) := by
  rw [rd_at (by rw [nextsL_length]; exact hk)]
  simp [nextsL]
theorem nextsL_set (w : List Int) {i : Nat} (hi : i < w.length) : (nextsL w i).set i ((nextP w i : Nat) : Int) = nextsL w (i + 1) := by
  apply List.ext_getElem
  · simp [nextsL]
  · intro k h1 h2
    rw [List.getElem_set]
    simp only [nextsL, List.getElem_map, List.getElem_range]
    by_cases e : i = k
    · subst e
      rw [if_pos rfl, if_pos (by omega)]
    · rw [if_neg e]
      by_cases h3 : k < i
      · rw [if_pos h3, if_pos (by omega)]
      · rw [if_neg h3, if_neg (by omega)]
theorem nextP_lt {w : List Int} (hn : 0 < w.length) (k : Nat) : nextP w k < w.length := Nat.mod_lt _ hn
/-- How many circles there are. -/
def circsL (w : List Int) : Nat := cycB id (nextP w) w.length 0 (List.replicate w.length false) 0
theorem rd_flag (s : List Bool) (k : Nat) (hk : k < s.length) : rdOf false s (k : Int) = s.getD k true := by
  unfold rdOf
  rw [Int.toNat_natCast, List.getD_eq_getElem?_getD, List.getD_eq_getElem?_getD, List.getElem?_eq_getElem hk]
  rfl
theorem impl_cyc_inner (w : List Int) (hl : w.length ≤ 12) (m : Int) (i : Nat) (hi : i < w.length) (r : Int) : ∀ (d : Nat) (s : List Bool) (k : Nat), s.count false < d → k < w.length → s.length = w.length →
    Ev (fun n => impl_cycles.l0 n (nextsL w w.length) (walkB id (nextP w) d s k) m (w.length : Int) ((i : Int) + 1)) r → Ev (fun n => impl_cycles.l1 n (nextsL w w.length) s m k (w.length : Int) i) r := by
  intro d
  induction d with
  | zero => intro s k hs; omega
  | succ d ih =>
    intro s k hs hk hsl hr
    refine Ev.step (fun n => by rw [impl_cycles.l1]) ?_
    refine Ev.ite_pos (by omega) (Ev.ite_pos (by omega) ?_)
    rw [rd_flag s k (by omega)]
    unfold walkB at hr
    by_cases e : s.getD k true = true
    · rw [if_pos e] at hr
      refine Ev.ite_pos e ?_
      rw [wrap_of (by omega) (by omega)]
      exact hr
    · rw [if_neg e] at hr
      refine Ev.ite_neg e (Ev.ite_pos (by rw [nextsL_length]; omega) ?_)
      rw [nextsL_get w hk, if_pos hk, Int.toNat_natCast]
      have e2 : ((s.set k true).set (id k) true) = s.set k true := by simp
      rw [e2] at hr
      refine ih (s.set k true) (nextP w k) ?_ (nextP_lt (by omega) k) (by simp [hsl]) hr
      have := count_set_lt s k (by simpa using e)
      omega
theorem impl_cyc_loop (w : List Int) (hl : w.length ≤ 12) : ∀ (d i : Nat) (s : List Bool) (m : Nat), i + d = w.length → s.length = w.length → m ≤ i →
    Ev (fun n => impl_cycles.l0 n (nextsL w w.length) s m (w.length : Int) i) ((cycB id (nextP w) d i s m : Nat) : Int) := by
  intro d
  induction d with
  | zero =>
    intro i s m hi hs hm
    refine Ev.step (fun n => by rw [impl_cycles.l0]) ?_
    refine Ev.ite_neg (by omega) ?_
    rw [cycB]
    exact Ev.now _
  | succ d ih =>
    intro i s m hi hs hm
    refine Ev.step (fun n => by rw [impl_cycles.l0]) ?_
    refine Ev.ite_pos (by omega) (Ev.ite_pos (by omega) (Ev.ite_pos (by omega) ?_))
    rw [rd_flag s i (by omega), cycB]
    by_cases e : s.getD i true = true
    · rw [if_pos e]
      refine Ev.ite_pos e ?_
      rw [wrap_of (by omega) (by omega)]
      exact ih (i + 1) s m (by omega) hs (by omega)
    · rw [if_neg e]
      refine Ev.ite_neg e ?_
      rw [wrap_of (by omega) (by omega)]
      refine impl_cyc_inner w hl _ i (by omega) _ (s.count false + 1) s i (by omega) (by omega) hs ?_
      exact ih (i + 1) _ (m + 1) (by omega) (by rw [walkB_length]; exact hs) (by omega)
theorem ev_impl_cycles (w : List Int) (hl : w.length ≤ 12) : Ev (fun n => impl_cycles.f n (nextsL w w.length)) ((circsL w : Nat) : Int) := by
  unfold impl_cycles.f
  rw [nextsL_length]
  refine Ev.ite_pos (by omega) (Ev.ite_pos (by omega) ?_)
  rw [Int.toNat_natCast]
  have h := impl_cyc_loop w hl w.length 0 (List.replicate w.length false) 0 (by omega) (by simp) (by omega)
  exact h
theorem mx_one (a : Nat) : mx (a : Int) 1 = ((max a 1 : Nat) : Int) := by unfold mx; split <;> omega
theorem ev_impl_borders (w : List Int) (h : isWordB w = true) : Ev (fun n => impl_borders.f n w) ((max (circsL w) 1 : Nat) : Int) := by
  have hlen := word_length h
  unfold impl_borders.f
  refine Ev.bind (ev_impl_mates w h) ?_
  rw [othersL_length]
  have e0 : othersL w = nextsL w 0 := by unfold othersL nextsL; simp
  rw [e0]
  have loop : ∀ (d i : Nat), i + d = w.length → Ev (fun n => impl_borders.l0 n w (nextsL w i) (w.length : Int) i) ((max (circsL w) 1 : Nat) : Int) := by
    intro d
    induction d with
    | zero =>
      intro i hi
      obtain rfl : i = w.length := by omega
      refine Ev.step (fun n => by rw [impl_borders.l0]) ?_
      refine Ev.ite_neg (by omega) (Ev.bind (ev_impl_cycles w hlen) ?_)
      rw [mx_one]
      exact Ev.now _
    | succ d ih =>
      intro i hi
      have ho := otherP_lt h (show i < w.length by omega)
      refine Ev.step (fun n => by rw [impl_borders.l0]) ?_
      refine Ev.ite_pos (by omega) (Ev.ite_pos (by omega) (Ev.ite_pos (by rw [nextsL_length]; omega) (Ev.ite_neg (by omega) ?_)))
      rw [nextsL_get w (by omega), if_neg (by omega), wrap_of (x := ((otherP w i : Nat) : Int) + 1) (by omega) (by omega), wrap_of (x := (i : Int) + 1) (by omega) (by omega), Int.toNat_natCast]
      have e : Int.tmod (((otherP w i : Nat) : Int) + 1) (w.length : Int) = ((nextP w i : Nat) : Int) := by
        rw [Int.tmod_eq_emod_of_nonneg (by omega)]
        unfold nextP
        simp
      rw [e, nextsL_set w (by omega)]
      exact ih (i + 1) (by omega)
  exact loop w.length 0 (by omega)
theorem spec_cyc_inner (w : List Int) (h : isWordB w = true) (m : Int) (i : Nat) (hi : i < w.length) (r : Int) : ∀ (d : Nat) (s : List Bool) (k : Nat), s.count false < d → k < w.length → s.length = w.length →
    Ev (fun n => spec_l02Circles.l0 n w (walkB id (nextP w) d s k) m (w.length : Int) ((i : Int) + 1)) r → Ev (fun n => spec_l02Circles.l1 n w s m (w.length : Int) i k) r := by
  have hl := word_length h
  intro d
  induction d with
  | zero => intro s k hs; omega
  | succ d ih =>
    intro s k hs hk hsl hr
    refine Ev.step (fun n => by rw [spec_l02Circles.l1]) ?_
    refine Ev.ite_pos (by omega) (Ev.ite_pos (by omega) ?_)
    rw [rd_flag s k (by omega)]
    unfold walkB at hr
    by_cases e : s.getD k true = true
    · rw [if_pos e] at hr
      refine Ev.ite_pos e ?_
      rw [wrap_of (by omega) (by omega)]
      exact hr
    · rw [if_neg e] at hr
      have hc := word_at_count h hk
      have hp := sndP_lt hc
      refine Ev.ite_neg e (Ev.ite_pos (by omega) ?_)
      rw [rd_at hk]
      refine Ev.bind (ev_spec_l01Places w w[k] (by omega) hc) (Ev.ite_neg (by omega) ?_)
      rw [Int.toNat_natCast]
      have e2 : ((s.set k true).set (id k) true) = s.set k true := by simp
      rw [e2] at hr
      have ho : (((otherP w k : Nat) : Int)) = (fstP w w[k] : Int) + (sndP w w[k] : Int) - (k : Int) := by
        unfold otherP
        rw [word_at hk]
        rcases place_of h hk with h2 | h2 <;> omega
      have hlt := otherP_lt h hk
      rw [wrap_of (x := (fstP w w[k] : Int) + (sndP w w[k] : Int)) (by omega) (by omega), ← ho, wrap_of (x := ((otherP w k : Nat) : Int)) (by omega) (by omega), wrap_of (x := ((otherP w k : Nat) : Int) + 1) (by omega) (by omega)]
      have e3 : Int.tmod (((otherP w k : Nat) : Int) + 1) (w.length : Int) = ((nextP w k : Nat) : Int) := by
        rw [Int.tmod_eq_emod_of_nonneg (by omega)]
        unfold nextP
        simp
      rw [e3]
      refine ih (s.set k true) (nextP w k) ?_ (nextP_lt (by omega) k) (by simp [hsl]) hr
      have := count_set_lt s k (by simpa using e)
      omega
theorem spec_cyc_loop (w : List Int) (h : isWordB w = true) : ∀ (d i : Nat) (s : List Bool) (m : Nat), i + d = w.length → s.length = w.length → m ≤ i →
    Ev (fun n => spec_l02Circles.l0 n w s m (w.length : Int) i) ((cycB id (nextP w) d i s m : Nat) : Int) := by
  have hl := word_length h
  intro d
  induction d with
  | zero =>
    intro i s m hi hs hm
    refine Ev.step (fun n => by rw [spec_l02Circles.l0]) ?_
    refine Ev.ite_neg (by omega) ?_
    rw [cycB]
    exact Ev.now _
  | succ d ih =>
    intro i s m hi hs hm
    refine Ev.step (fun n => by rw [spec_l02Circles.l0]) ?_
    refine Ev.ite_pos (by omega) (Ev.ite_pos (by omega) (Ev.ite_pos (by omega) ?_))
    rw [rd_flag s i (by omega), cycB]
    by_cases e : s.getD i true = true
    · rw [if_pos e]
      refine Ev.ite_pos e ?_
      rw [wrap_of (by omega) (by omega)]
      exact ih (i + 1) s m (by omega) hs (by omega)
    · rw [if_neg e]
      refine Ev.ite_neg e ?_
      rw [wrap_of (by omega) (by omega)]
      refine spec_cyc_inner w h _ i (by omega) _ (s.count false + 1) s i (by omega) (by omega) hs ?_
      exact ih (i + 1) _ (m + 1) (by omega) (by rw [walkB_length]; exact hs) (by omega)
theorem cycB_ge (al nx : Nat → Nat) : ∀ (d i : Nat) (s : List Bool) (m : Nat), m ≤ cycB al nx d i s m
  | 0, _, _, _ => Nat.le_refl _
  | d + 1, i, s, m => by
    unfold cycB
    split
    · exact cycB_ge al nx d _ _ _
    · exact Nat.le_trans (Nat.le_succ m) (cycB_ge al nx d _ _ _)
theorem circs_pos {w : List Int} (hn : 0 < w.length) : 1 ≤ circsL w := by
  unfold circsL
  obtain ⟨n, hn⟩ : ∃ n, w.length = n + 1 := ⟨w.length - 1, by omega⟩
  rw [hn, cycB, if_neg (by simp)]
  exact cycB_ge _ _ _ _ _ _
theorem ev_spec_l02Circles (w : List Int) (h : isWordB w = true) : Ev (fun n => spec_l02Circles.f n w) ((max (circsL w) 1 : Nat) : Int) := by
  have hl := word_length h
  unfold spec_l02Circles.f
  by_cases h0 : w.length = 0
  · have e : circsL w = 0 := by unfold circsL; rw [h0]; rfl
    rw [e]
    exact Ev.ite_pos (by omega) (Ev.now _)
  · have e : max (circsL w) 1 = circsL w := by have := circs_pos (w := w) (by omega); omega
    rw [e]
    refine Ev.ite_neg (by omega) (Ev.ite_pos (by omega) (Ev.ite_pos (by omega) ?_))
    rw [Int.toNat_natCast]
    exact spec_cyc_loop w h w.length 0 (List.replicate w.length false) 0 (by omega) (by simp) (by omega)
theorem circs_le {w : List Int} (h : isWordB w = true) : circsL w ≤ 12 := by
  have := cycB_le id (nextP w) w.length 0 (List.replicate w.length false) 0
  have := word_length h
  unfold circsL
  omega
end Go.Proofs.Ytckmncebedhgeaa.Pure
