/-
  The given law laws.FnExactPlaceInList returns true for every list: the program's PlaceInList answers as the reference's. No condition.
-/
import Derived.Test.YtflpdjmdkdgijaaEvE
import Derived.Test.YtflpdjmdkdgijaaEvO
import Derived.Test.YtflpdjmdkdgijaaEvW
import Derived.Test.YtflpdjmdkdgijaaEvFl
import Derived.Test.YtflpdjmdkdgijaaPlainQ
import Derived.Test.YtflpdjmdkdgijaaPlainB
import Derived.Test.YtflpdjmdkdgijaaGlPlaceInList
namespace Go.Proofs.Ytflpdjmdkdgijaa.Pure
open Go.RowKit Go.Proofs.Ytflpdjmdkdgijaa.G Go.Proofs.Ytflpdjmdkdgijaa.Plain Go.Proofs.YtflpdjmdkdgijaaW.PrintWords Go.Proofs.YtflpdjmdkdgijaaW.PrintLast
set_option linter.unusedVariables false

theorem firsts_app : ∀ (b a : List Int), ∃ t, firsts (a ++ b) = firsts a ++ t
  | [], a => ⟨[], by simp⟩
  | x :: b, a => by
    obtain ⟨t, ht⟩ := firsts_app b (a ++ [x])
    rw [List.append_assoc, List.singleton_append] at ht
    rw [ht, firsts_snoc]
    split
    · exact ⟨t, rfl⟩
    · exact ⟨[x] ++ t, by rw [List.append_assoc]⟩
theorem firsts_take {w : List Int} (h : isWordB w = true) (i : Nat) {k : Nat} (hk : k < (firsts (w.take i)).length) : (firsts (w.take i))[k] = (k : Int) := by
  obtain ⟨t, ht⟩ := firsts_app (w.drop i) (w.take i)
  rw [List.take_append_drop] at ht
  have h1 : k < (firsts w).length := by rw [ht, List.length_append]; omega
  have h2 := word_firsts h h1
  rw [← h2]
  simp only [ht]
  rw [List.getElem_append_left hk]
/-- The next number of a word is a number met, or the next new one. -/
theorem next_num {w : List Int} (h : isWordB w = true) {i : Nat} (hi : i < w.length) : ∃ y : Nat, w[i] = (y : Int) ∧ y ≤ (firsts (w.take i)).length ∧ (firsts (w.take (i + 1))).length = max (firsts (w.take i)).length (y + 1) := by
  have e1 := List.take_succ_eq_append_getElem hi
  by_cases c : (firsts (w.take i)).contains w[i] = true
  · have hm : w[i] ∈ firsts (w.take i) := by simpa using c
    obtain ⟨k, hk, e⟩ := List.mem_iff_getElem.1 hm
    rw [firsts_take h i hk] at e
    refine ⟨k, e.symm, by omega, ?_⟩
    rw [e1, firsts_snoc, if_pos c]
    omega
  · have e2 : firsts (w.take (i + 1)) = firsts (w.take i) ++ [w[i]] := by rw [e1, firsts_snoc, if_neg c]
    have hk : (firsts (w.take i)).length < (firsts (w.take (i + 1))).length := by rw [e2]; simp
    have e3 := firsts_take h (i + 1) hk
    have e4 : (firsts (w.take (i + 1)))[(firsts (w.take i)).length] = w[i] := by simp only [e2]; simp
    refine ⟨(firsts (w.take i)).length, e4.symm.trans e3, Nat.le_refl _, ?_⟩
    rw [e2, List.length_append, List.length_singleton]
    omega
theorem fill_mem (n : Nat) (w : List Int) (h : isWordB w = true) (hl : w.length = 2 * n) : ∀ (d i : Nat), i + d = 2 * n → w ∈ fillF n d (w.take i) (firsts (w.take i)).length
  | 0, i, hi => by
    rw [fillF, List.take_of_length_le (by omega)]
    exact List.mem_singleton.2 rfl
  | d + 1, i, hi => by
    have hlt : i < w.length := by omega
    obtain ⟨y, hy, h1, h2⟩ := next_num h hlt
    have ih := fill_mem n w h hl d (i + 1) (by omega)
    have hw := word_mem h (List.getElem_mem hlt)
    rw [hy] at hw
    rw [fillF]
    refine List.mem_flatMap.2 ⟨y, List.mem_range.2 (by omega), ?_⟩
    have hc : (w.take i).count (y : Int) < 2 := by
      have c1 := count_take hlt (y : Int)
      rw [if_pos hy] at c1
      have c2 : (w.take (i + 1)).count (y : Int) ≤ w.count (y : Int) := (List.take_sublist _ _).count_le _
      have c3 := word_count h (x := (y : Int)) hw.1 hw.2
      omega
    rw [if_pos hc, ← h2, ← hy, ← List.take_succ_eq_append_getElem hlt]
    exact ih
theorem words_mem (n : Nat) (hn : n ≤ 5) (w : List Int) (h : isWordB w = true) (hl : w.length = 2 * n) : w ∈ wordsF n := by
  rw [← words_fill n hn]
  have := fill_mem n w h hl (2 * n) 0 (by omega)
  simpa [firsts] using this
def sortedB : List (List Int) → Bool
  | x :: y :: t => ltB x y && sortedB (y :: t)
  | _ => true
theorem words_sorted (n : Nat) (hn : n ≤ 5) : sortedB (wordsF n) = true := by
  match n with
  | 0 => decide +kernel
  | 1 => decide +kernel
  | 2 => decide +kernel
  | 3 => decide +kernel
  | 4 => decide +kernel
  | 5 => decide +kernel
  | n + 6 => omega
theorem sorted_next : ∀ {xs : List (List Int)}, sortedB xs = true → ∀ (i : Nat) (h : i + 1 < xs.length), ltB xs[i] xs[i + 1] = true
  | [], _, i, h => by simp at h
  | [_], _, i, h => by simp at h
  | x :: y :: t, hs, 0, _ => by
    rw [sortedB, Bool.and_eq_true] at hs
    exact hs.1
  | x :: y :: t, hs, i + 1, h => by
    rw [sortedB, Bool.and_eq_true] at hs
    exact sorted_next hs.2 i (by simpa using h)
theorem sorted_lt {xs : List (List Int)} (hs : sortedB xs = true) {m : Nat} (hm : ∀ r ∈ xs, r.length = m) (i : Nat) : ∀ (d : Nat) (h : i + 1 + d < xs.length), ltB (xs[i]'(by omega)) xs[i + 1 + d] = true
  | 0, h => sorted_next hs i h
  | d + 1, h => by
    have h1 := sorted_lt hs hm i d (by omega)
    have h2 := sorted_next hs (i + 1 + d) (by omega)
    have e : ∀ (j : Nat) (hj : j < xs.length), xs[j].length = m := fun j hj => hm _ (List.getElem_mem hj)
    exact ltB_trans ((e _ _).trans (e _ _).symm) ((e _ _).trans (e _ _).symm) h1 h2
theorem sorted_at {xs : List (List Int)} (hs : sortedB xs = true) {m : Nat} (hm : ∀ r ∈ xs, r.length = m) {i j : Nat} (hij : i < j) (hj : j < xs.length) : ltB (xs[i]'(by omega)) xs[j] = true := by
  obtain ⟨d, rfl⟩ : ∃ d, j = i + 1 + d := ⟨j - (i + 1), by omega⟩
  exact sorted_lt hs hm i d hj
theorem u64_small {x : Int} (h0 : 0 ≤ x) (h1 : x < 9223372036854775808) : IntKind.u64.wrap x = x := by
  unfold IntKind.wrap
  simp only [IntKind.bits, IntKind.signed, Bool.false_and, Bool.false_eq_true, if_false]
  omega
theorem mid_of {i j : Nat} (h : i + j < 1000000) : wrap64 ((IntKind.u64.wrap (wrap64 ((i : Int) + (j : Int)))) / 2) = (((i + j) / 2 : Nat) : Int) := by
  have a1 : wrap64 ((i : Int) + (j : Int)) = (i : Int) + (j : Int) := wrap_of (by omega) (by omega)
  have a2 : IntKind.u64.wrap ((i : Int) + (j : Int)) = (i : Int) + (j : Int) := u64_small (by omega) (by omega)
  rw [a1, a2, wrap_of (by omega) (by omega)]
  omega
theorem at_L1 {xs : List (List Int)} {k : Nat} (h : k < xs.length) : rd_L1 xs (k : Int) = xs[k] := by
  unfold rd_L1
  rw [Int.toNat_natCast, List.getD_eq_getElem?_getD, List.getElem?_eq_getElem h]
  rfl
/-- The library's search among words in order. -/
theorem search_loop (xs : List (List Int)) (w : List Int) (p : Nat) (hp : p < xs.length) (hl : xs.length ≤ 1000) (c : Nat → Int)
    (hc : ∀ k (h : k < xs.length), Ev (fun n => slices_Compare_int64_int64.f n xs[k] w) (c k)) (h1 : ∀ k, k < p → c k < 0) (h0 : c p = 0) (h2 : ∀ k, p < k → k < xs.length → ¬ c k < 0) :
    ∀ (e i j : Nat), j - i ≤ e → i ≤ p → p ≤ j → j ≤ xs.length → Ev (fun n => slices_BinarySearchFunc_int64_int64_int64_at_slices_Compare_int64_int64.l0 n xs w (xs.length : Int) (i : Int) (j : Int)) ((p : Int), true) := by
  intro e
  induction e with
  | zero =>
    intro i j he hi hj hl2
    obtain rfl : i = p := by omega
    obtain rfl : j = i := by omega
    refine Ev.step (fun n => by rw [slices_BinarySearchFunc_int64_int64_int64_at_slices_Compare_int64_int64.l0]) ?_
    refine Ev.ite_neg (by omega) (Ev.ite_pos (by omega) (Ev.ite_pos (by omega) (Ev.ite_pos (by omega) ?_)))
    rw [at_L1 hp]
    refine Ev.bind (hc j hp) ?_
    rw [h0]
    exact Ev.now _
  | succ e ih =>
    intro i j he hi hj hl2
    by_cases c0 : i < j
    · have e1 := mid_of (i := i) (j := j) (by omega)
      obtain ⟨h, hh⟩ : ∃ h, h = (i + j) / 2 := ⟨_, rfl⟩
      rw [← hh] at e1
      have hlt : h < xs.length := by omega
      refine Ev.step (fun n => by rw [slices_BinarySearchFunc_int64_int64_int64_at_slices_Compare_int64_int64.l0]) ?_
      simp only [e1]
      clear e1
      refine Ev.ite_pos (by omega) (Ev.ite_pos (by omega) (Ev.ite_pos (by omega) ?_))
      rw [at_L1 hlt]
      refine Ev.bind (hc h hlt) ?_
      by_cases c1 : h < p
      · refine Ev.ite_pos (h1 h c1) ?_
        have e2 : wrap64 ((h : Int) + 1) = ((h + 1 : Nat) : Int) := by rw [wrap_of (by omega) (by omega)]; omega
        rw [e2]
        exact ih (h + 1) j (by omega) (by omega) hj hl2
      · refine Ev.ite_neg ?_ (ih i h (by omega) hi (by omega) (by omega))
        by_cases c2 : h = p
        · subst c2; rw [h0]; omega
        · exact h2 h (by omega) hlt
    · exact ih i j (by omega) hi hj hl2
theorem cmpI_selfW : ∀ a : List Int, cmpI a a = 0
  | [] => rfl
  | x :: a => by
    unfold cmpI
    simp [cmpI_selfW a]
theorem place_spec (xs : List (List Int)) (w : List Int) (p : Nat) (hp : p < xs.length) (hl : xs.length ≤ 1000) (he : xs[p] = w) (hr : ∀ r ∈ xs, r.length ≤ 1000) (hne : ∀ k (h : k < xs.length), k < p → xs[k] ≠ w) :
    ∀ (e i : Nat), i + e = p → Ev (fun n => spec_PlaceInList.l0 n w xs (i : Int)) ((p : Int), 0) := by
  intro e
  induction e with
  | zero =>
    intro i hi
    obtain rfl : i = p := by omega
    refine Ev.step (fun n => by rw [spec_PlaceInList.l0]) ?_
    refine Ev.ite_pos (by omega) (Ev.ite_pos (by omega) ?_)
    rw [at_L1 hp, he]
    exact Ev.bind (ev_spec_l01Same w w (by have := hr _ (List.getElem_mem hp); rw [he] at this; omega)) (Ev.ite_pos (by simp) (Ev.now _))
  | succ e ih =>
    intro i hi
    have hlt : i < xs.length := by omega
    refine Ev.step (fun n => by rw [spec_PlaceInList.l0]) ?_
    refine Ev.ite_pos (by omega) (Ev.ite_pos (by omega) ?_)
    rw [at_L1 hlt]
    refine Ev.bind (ev_spec_l01Same xs[i] w (by have := hr _ (List.getElem_mem hlt); omega)) (Ev.ite_neg (by simpa using hne i hlt (by omega)) ?_)
    have e2 : wrap64 ((i : Int) + 1) = ((i + 1 : Nat) : Int) := by rw [wrap_of (by omega) (by omega)]; omega
    rw [e2]
    exact ih (i + 1) (by omega)
/-- What PlaceInList answers. -/
def PlaceInListR (w : List Int) : Int × Int := if isWordB w = true then (if w.length > 10 then (0, 2) else (((wordsF (w.length / 2)).idxOf w : Nat), 0)) else (0, 1)
theorem place_at {w : List Int} (h : isWordB w = true) (hl : ¬ w.length > 10) : ∃ n, n ≤ 5 ∧ w.length = 2 * n ∧ w.length / 2 = n ∧ ∃ hp : (wordsF n).idxOf w < (wordsF n).length, (wordsF n)[(wordsF n).idxOf w] = w := by
  have he := word_even h
  refine ⟨w.length / 2, by omega, by omega, rfl, ?_⟩
  have hm := words_mem (w.length / 2) (by omega) w h (by omega)
  exact ⟨List.idxOf_lt_length_of_mem hm, List.getElem_idxOf _⟩
theorem ev_spec_PlaceInList (w : List Int) (hs : w.length ≤ 1048576) : Ev (fun n => spec_PlaceInList.f n w) (PlaceInListR w) := by
  unfold spec_PlaceInList.f PlaceInListR
  refine Ev.bind (ev_spec_l01Is w) ?_
  by_cases h : isWordB w = true
  · rw [if_pos h]
    refine Ev.ite_pos h ?_
    by_cases hl : w.length > 10
    · rw [if_pos hl]
      exact Ev.ite_pos (by omega) (Ev.now _)
    · rw [if_neg hl]
      refine Ev.ite_neg (by omega) ?_
      obtain ⟨n, hn, e1, e2, hp, hw⟩ := place_at h hl
      have e3 : wrap64 ((w.length : Int) / 2) = (n : Int) := by rw [wrap_of (by omega) (by omega)]; omega
      rw [e3, e2]
      refine Ev.bind (ev_all n hn) ?_
      have hle := wordsF_le n hn
      exact place_spec (wordsF n) w _ hp hle hw (fun r hr => by have := words_len n hn r hr; omega) (fun k hk hlt e => by
        have h1 := sorted_at (words_sorted n hn) (words_len n hn) hlt hp
        rw [e, hw, ltB_self] at h1
        cases h1) ((wordsF n).idxOf w) 0 (Nat.zero_add _)
  · rw [if_neg h]
    exact Ev.ite_neg h (Ev.now _)
theorem ev_impl_PlaceInList (w : List Int) (hs : w.length ≤ 1048576) (hf : wfB w = true) : Ev (fun n => impl_PlaceInList.f n w) (PlaceInListR w) := by
  unfold impl_PlaceInList.f PlaceInListR
  refine Ev.bind (ev_impl_IsWord w hf) ?_
  by_cases h : isWordB w = true
  · rw [if_pos h]
    refine Ev.ite_pos h ?_
    have he := word_even h
    have hc : impl_chords.f w = some ((w.length / 2 : Nat) : Int) := by unfold impl_chords.f; rw [wrap_of (by omega) (by omega)]; congr 1
    refine Ev.bind (Ev.const hc) ?_
    by_cases hl : w.length > 10
    · rw [if_pos hl]
      exact Ev.ite_pos (by omega) (Ev.now _)
    · rw [if_neg hl]
      refine Ev.ite_neg (by omega) (Ev.bind (Ev.const hc) ?_)
      obtain ⟨n, hn, e1, e2, hp, hw⟩ := place_at h hl
      rw [e2]
      have e4 : impl_wordsOf.f (n : Int) = some (wordsF n) := by unfold impl_wordsOf.f; rw [if_pos (by omega), Int.toNat_natCast]
      refine Ev.bind (Ev.const e4) ?_
      have hle := wordsF_le n hn
      have hlen := words_len n hn
      have hso := words_sorted n hn
      have hg : ∀ k (hk : k < (wordsF n).length), (wordsF n)[k].length = 2 * n := fun k hk => hlen _ (List.getElem_mem hk)
      obtain ⟨p, hpe⟩ : ∃ p, p = (wordsF n).idxOf w := ⟨_, rfl⟩
      have hp' : p < (wordsF n).length := by rw [hpe]; exact hp
      have hw' : (wordsF n)[p] = w := by subst hpe; exact hw
      rw [← hpe]
      have hb := search_loop (wordsF n) w p hp' hle (fun k => if h : k < (wordsF n).length then cmpI (wordsF n)[k] w else 0)
        (fun k hk => by
          have := ev_slices_CompareO (wordsF n)[k] w (by have := hg k hk; omega) (by omega)
          rw [dif_pos hk]
          exact this)
        (fun k hk => by
          rw [dif_pos (by omega)]
          have h1 := sorted_at hso hlen hk hp'
          rw [hw'] at h1
          exact (cmpI_lt (by rw [hg k (by omega), e1])).2 h1)
        (by rw [dif_pos hp', hw']; exact cmpI_selfW w)
        (fun k hk hlt => by
          rw [dif_pos hlt]
          intro hneg
          have h1 := (cmpI_lt (by rw [hg k hlt, e1])).1 hneg
          have h2 := sorted_at hso hlen hk hlt
          rw [hw'] at h2
          have h3 := ltB_trans (by rw [hg k hlt, e1]) (by rw [hg k hlt, e1]) h1 h2
          rw [ltB_self] at h3
          cases h3)
        (wordsF n).length 0 (wordsF n).length (by omega) (by omega) (by omega) (Nat.le_refl _)
      unfold slices_BinarySearchFunc_int64_int64_int64_at_slices_Compare_int64_int64.f
      exact Ev.bind hb (Ev.now _)
  · rw [if_neg h]
    exact Ev.ite_neg h (Ev.now _)
theorem FnExactPlaceInList : laws_FnExactPlaceInList.Pure := by
  intro l0 hml0 hsl0 hwl0
  have hfl0 : wfB l0 = true := List.all_eq_true.2 hwl0
  refine Ev.rounds ?_
  unfold laws_FnExactPlaceInList.f
  by_cases hl0 : l0.length ≤ 1048576
  rotate_left
  · exact Ev.ite_pos (by omega) (Ev.now _)
  have S := ev_spec_PlaceInList l0 hl0
  have I := ev_impl_PlaceInList l0 hl0 hfl0
  have Tl0 := ev_toInt64S l0 (by omega)
  have El0 := ev_eq_same l0 (by omega)
  have Ml0 := ev_markInt64S l0 1 (by omega) (by omega)
  repeat (first
    | exact Ev.now _
    | refine Ev.bind Tl0 ?_
    | refine Ev.bind S ?_
    | refine Ev.bind I ?_
    | refine Ev.bind El0 ?_
    | refine Ev.bind Ml0 ?_
    | refine Ev.ite_pos rfl ?_
    | (refine Ev.ite_neg ?_ ?_; focus (first | (simp; done) | (simp; omega) | omega))
    | (apply Ev.step; focus (intro n; first | rw [laws_FnExactPlaceInList.j0])))
end Go.Proofs.Ytflpdjmdkdgijaa.Pure
