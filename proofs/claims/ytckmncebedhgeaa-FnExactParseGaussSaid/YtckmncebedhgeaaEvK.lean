/-
  Plain laws of the texts of Gauss codes: the reference's and the program's.
-/
import Derived.Test.YtckmncebedhgeaaEvH
import Derived.Test.YtckmncebedhgeaaPlainM
import Derived.Test.YtckmncebedhgeaaPlainB
import Derived.Test.YtckmncebedhgeaaG127
import Derived.Test.YtckmncebedhgeaaG128
namespace Go.Proofs.Ytckmncebedhgeaa.Pure
open Go.RowKit Go.Proofs.Ytckmncebedhgeaa.G Go.Proofs.Ytckmncebedhgeaa.Plain Go.Proofs.YtckmncebedhgeaaW.PrintWords Go.Proofs.YtckmncebedhgeaaW.PrintLast
set_option linter.unusedVariables false

def flagsK (n : Nat) (l : List Int) : List Bool := (List.range n).map fun (i : Nat) => l.contains (i : Int)
theorem flagsK_length (n : Nat) (l : List Int) : (flagsK n l).length = n := by simp [flagsK]
theorem flagsK_at {n : Nat} {l : List Int} {x : Int} (h0 : 0 ≤ x) (h1 : x < (n : Int)) : rdOf false (flagsK n l) x = l.contains x := by
  unfold rdOf flagsK
  rw [List.getD_eq_getElem?_getD, List.getElem?_map, List.getElem?_range (by omega)]
  have e : ((x.toNat : Nat) : Int) = x := by omega
  simp [e]
theorem contains_snoc (l : List Int) (x y : Int) : (l ++ [x]).contains y = (l.contains y || decide (y = x)) := by
  rw [Bool.eq_iff_iff]
  simp
theorem flagsK_old {n : Nat} {l : List Int} {x : Int} (h : l.contains x = true) : flagsK n (l ++ [x]) = flagsK n l := by
  unfold flagsK
  apply List.map_congr_left
  intro i _
  rw [contains_snoc]
  by_cases e : (i : Int) = x
  · rw [e, h]; rfl
  · simp [e]
theorem flagsK_new {n : Nat} {l : List Int} {x : Int} (h0 : 0 ≤ x) (h1 : x < (n : Int)) : (flagsK n l).set x.toNat true = flagsK n (l ++ [x]) := by
  apply List.ext_getElem
  · simp [flagsK]
  · intro i h2 h3
    rw [List.getElem_set]
    simp only [flagsK, List.getElem_map, List.getElem_range]
    rw [contains_snoc]
    by_cases e : x.toNat = i
    · rw [if_pos e]
      have : (i : Int) = x := by omega
      simp [this]
    · rw [if_neg e]
      have : ¬ (i : Int) = x := by omega
      simp [this]
theorem gauss_parts {w h s : List Int} (e : isGaussB w h s = true) : isWordB w = true ∧ h.length = w.length / 2 ∧ s.length = w.length / 2 := by
  unfold isGaussB at e
  simp only [Bool.and_eq_true, decide_eq_true_eq] at e
  exact ⟨e.1, e.2.1, e.2.2.1⟩
theorem gauss_sign {w h s : List Int} (e : isGaussB w h s = true) {k : Nat} (hk : k < s.length) : s[k] = 1 ∨ s[k] = -1 := by
  unfold isGaussB at e
  simp only [Bool.and_eq_true, List.all_eq_true] at e
  have := e.2.2.2.2 s[k] (List.getElem_mem hk)
  unfold signB at this
  simpa using this
theorem spec_text_loop (w h s : List Int) (e : isGaussB w h s = true) : ∀ (d k : Nat), k ≤ w.length → w.length - k = d → Ev (fun n => spec_l07Text.l0 n (gtF w h s k) (flagsK (w.length / 2) (w.take k)) k w h s) (strOfNums (gtF w h s w.length)) := by
  obtain ⟨hw, hh, hs⟩ := gauss_parts e
  have hl := word_length hw
  intro d
  induction d with
  | zero =>
    intro k hk hd
    obtain rfl : k = w.length := by omega
    refine Ev.step (fun n => by rw [spec_l07Text.l0]) (Ev.ite_neg (by omega) ?_)
    exact Ev.now _
  | succ d ih =>
    intro k hk hd
    have hlt : k < w.length := by omega
    have hn := ih (k + 1) (by omega) (by omega)
    have hm := word_mem hw (List.getElem_mem hlt)
    have hg := gtF_length w h s k
    have ht : w.take (k + 1) = w.take k ++ [w[k]] := List.take_succ_eq_append_getElem hlt
    have hr : rd w (k : Int) = w[k] := rd_at hlt
    rw [ht] at hn
    have hgs : gtF w h s (k + 1) = gtF w h s k ++ gtN h s (w.take k) w[k] := by rw [← hr]; rfl
    rw [hgs] at hn
    refine Ev.step (fun n => by rw [spec_l07Text.l0]) ?_
    rw [hr, wrap_of (x := (k : Int) + 1) (by omega) (by omega), wrap_of (x := 97 + w[k]) (by omega) (by omega)]
    refine Ev.ite_pos (by omega) (Ev.ite_pos (by omega) (Ev.ite_pos (by omega) (Ev.bind (Ev.now _) (Ev.ite_pos hm.1 (Ev.ite_pos (by rw [flagsK_length]; exact hm.2) ?_)))))
    rw [flagsK_at hm.1 hm.2]
    unfold gtN at hn
    by_cases c : (w.take k).contains w[k] = true
    · rw [if_pos c, flagsK_old c] at hn
      exact Ev.ite_pos c hn
    · rw [if_neg c, ← flagsK_new hm.1 hm.2] at hn
      have hks : w[k].toNat < s.length := by omega
      have hrs : rd s w[k] = s[w[k].toNat] := by
        unfold rd
        rw [List.getD_eq_getElem?_getD, List.getElem?_eq_getElem hks]; rfl
      have hsg := gauss_sign e hks
      rw [← hrs] at hsg
      refine Ev.ite_neg c (Ev.bind (Ev.now _) (Ev.ite_pos (by omega) ?_))
      have tail : ∀ (sg : Int), (∀ hd : Int, gtF w h s k ++ (97 + w[k]) % 256 :: [sg, hd] = ((gtF w h s k ++ [(97 + w[k]) % 256]) ++ [sg]) ++ [hd]) := fun sg hd => by simp
      by_cases c2 : rd s w[k] > 0
      · rw [if_neg (show ¬ rd s w[k] < 0 by omega), tail] at hn
        refine Ev.ite_pos c2 (Ev.ite_pos (by simp; omega) (Ev.bind (Ev.now _) (Ev.ite_pos (by omega) ?_)))
        by_cases c3 : rd h w[k] = 1
        · rw [if_pos c3] at hn
          exact Ev.ite_pos c3 (Ev.ite_pos (by simp; omega) hn)
        · rw [if_neg c3] at hn
          exact Ev.ite_neg c3 (Ev.ite_pos (by simp; omega) hn)
      · rw [if_pos (show rd s w[k] < 0 by omega), tail] at hn
        refine Ev.ite_neg c2 (Ev.ite_pos (by simp; omega) (Ev.bind (Ev.now _) (Ev.ite_pos (by omega) ?_)))
        by_cases c3 : rd h w[k] = 1
        · rw [if_pos c3] at hn
          exact Ev.ite_pos c3 (Ev.ite_pos (by simp; omega) hn)
        · rw [if_neg c3] at hn
          exact Ev.ite_neg c3 (Ev.ite_pos (by simp; omega) hn)
theorem ev_spec_l07Text (w h s : List Int) (e : isGaussB w h s = true) : Ev (fun n => spec_l07Text.f n w h s) (strOfNums (gtF w h s w.length)) := by
  obtain ⟨hw, hh, hs⟩ := gauss_parts e
  have hl := word_length hw
  unfold spec_l07Text.f
  refine Ev.ite_pos (by omega) (Ev.ite_pos (by omega) ?_)
  have h2 := spec_text_loop w h s e w.length 0 (by omega) (by omega)
  have e2 : flagsK (w.length / 2) (w.take 0) = List.replicate (w.length / 2) false := by
    rw [List.take_zero]
    apply List.ext_getElem
    · simp [flagsK]
    · intro i h1 h2; simp [flagsK]
  rw [e2] at h2
  rw [Int.toNat_natCast, hs]
  exact h2
theorem impl_gaussText_f (w h s : List Int) (e : isGaussB w h s = true) : impl_gaussText.f w h s = some (strOfNums (gtF w h s w.length)) := by
  obtain ⟨hw, hh, hs⟩ := gauss_parts e
  have hl := word_length hw
  unfold impl_gaussText.f
  refine if_pos ?_
  unfold impl_gaussText.ok
  rw [Bool.and_eq_true, Bool.and_eq_true]
  refine ⟨word_wf hw, decide_eq_true (by omega), List.all_eq_true.2 fun x hx => decide_eq_true ?_⟩
  have := word_mem hw hx
  omega
end Go.Proofs.Ytckmncebedhgeaa.Pure
