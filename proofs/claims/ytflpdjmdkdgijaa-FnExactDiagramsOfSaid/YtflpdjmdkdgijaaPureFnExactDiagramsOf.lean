/-
  The given law laws.FnExactDiagramsOf returns true for every number: the program's DiagramsOf answers as the reference's. No condition.
-/
import Derived.Test.YtflpdjmdkdgijaaEvE
import Derived.Test.YtflpdjmdkdgijaaEvM
import Derived.Test.YtflpdjmdkdgijaaEvFl
import Derived.Test.YtflpdjmdkdgijaaEvR
import Derived.Test.YtflpdjmdkdgijaaGlDiagramsOf
namespace Go.Proofs.Ytflpdjmdkdgijaa.Pure
open Go.RowKit Go.Proofs.Ytflpdjmdkdgijaa.G Go.Proofs.Ytflpdjmdkdgijaa.Plain Go.Proofs.YtflpdjmdkdgijaaW.PrintWords Go.Proofs.YtflpdjmdkdgijaaW.PrintLast
set_option linter.unusedVariables false
theorem words_word (n : Nat) (hn : n ≤ 5) : ∀ r ∈ wordsF n, isWordB r = true := by
  have h : (wordsF n).all isWordB = true := by
    match n with
    | 0 => decide +kernel
    | 1 => decide +kernel
    | 2 => decide +kernel
    | 3 => decide +kernel
    | 4 => decide +kernel
    | 5 => decide +kernel
    | n + 6 => omega
  intro r hr
  exact List.all_eq_true.1 h r hr
/-- Is a word no diagram? -/
def noDiag (w : List Int) : Bool := !(decide (leastL w = w))
def diagsF (n : Nat) : List (List Int) := keepG noDiag (wordsF n)
theorem at_L1d {xs : List (List Int)} {k : Nat} (h : k < xs.length) : rd_L1 xs (k : Int) = xs[k] := by
  unfold rd_L1
  rw [Int.toNat_natCast, List.getD_eq_getElem?_getD, List.getElem?_eq_getElem h]
  rfl
theorem ev_diag (w : List Int) (h : isWordB w = true) : Ev (fun k => impl_diagramsOf_1.f k w) (noDiag w) := by
  have hl := word_length h
  unfold impl_diagramsOf_1.f impl_isDiagram.f noDiag
  exact Ev.bind (Ev.bind (ev_impl_least w h) (Ev.bind (ev_slices_Equal _ _ (by rw [leastL_length]; omega)) (Ev.now _))) (Ev.now _)
theorem ev_each : ∀ (xs : List (List Int)), (∀ x ∈ xs, isWordB x = true) → ∃ K, ∀ k, K ≤ k → ∀ x ∈ xs, impl_diagramsOf_1.f k x = some (noDiag x)
  | [], _ => ⟨0, fun k _ x hx => by simp at hx⟩
  | y :: xs, h => by
    obtain ⟨K1, h1⟩ := ev_each xs (fun x hx => h x (List.mem_cons_of_mem _ hx))
    obtain ⟨K2, h2⟩ := ev_diag y (h y List.mem_cons_self)
    refine ⟨max K1 K2, fun k hk x hx => ?_⟩
    rcases List.mem_cons.1 hx with rfl | hx
    · exact h2 k (by omega)
    · exact h1 k (by omega) x hx
theorem index_loop (xs : List (List Int)) (hw : ∀ x ∈ xs, isWordB x = true) (hl : xs.length ≤ 1000) : ∀ (d i : Nat), i + d = xs.length → Ev (fun n => slices_IndexFunc_int64_int64_at_impl_diagramsOf_1.l0 n xs (xs.length : Int) (i : Int)) (idxG noDiag (xs.drop i) i) := by
  intro d
  induction d with
  | zero =>
    intro i hi
    refine Ev.step (fun n => by rw [slices_IndexFunc_int64_int64_at_impl_diagramsOf_1.l0]) ?_
    rw [List.drop_eq_nil_of_le (by omega)]
    exact Ev.ite_neg (by omega) (Ev.now _)
  | succ d ih =>
    intro i hi
    have hlt : i < xs.length := by omega
    refine Ev.step (fun n => by rw [slices_IndexFunc_int64_int64_at_impl_diagramsOf_1.l0]) ?_
    refine Ev.ite_pos (by omega) (Ev.ite_pos (by omega) (Ev.ite_pos (by omega) ?_))
    rw [at_L1d hlt, List.drop_eq_getElem_cons hlt]
    refine Ev.bind (ev_diag _ (hw _ (List.getElem_mem hlt))) ?_
    unfold idxG
    by_cases c : noDiag xs[i] = true
    · rw [if_pos c]
      exact Ev.ite_pos c (Ev.now _)
    · rw [if_neg c]
      refine Ev.ite_neg c ?_
      have e2 : wrap64 ((i : Int) + 1) = ((i + 1 : Nat) : Int) := by rw [wrap_of (by omega) (by omega)]; omega
      rw [e2]
      exact ih (i + 1) (by omega)
theorem ev_impl_diagramsOf (n : Nat) (hn : n ≤ 5) : Ev (fun k => impl_diagramsOf.f k (n : Int)) (diagsF n) := by
  have hw := words_word n hn
  have hl := wordsF_le n hn
  obtain ⟨K1, h1⟩ := ev_each (wordsF n) hw
  have h2 := index_loop (wordsF n) hw hl (wordsF n).length 0 (by omega)
  rw [List.drop_zero] at h2
  obtain ⟨K2, h2⟩ := h2
  refine ⟨max K1 K2, fun k hk => ?_⟩
  have h3 := h1 k (by omega)
  have hq : ∀ x ∈ wordsF n, impl_diagramsOf.q k x = noDiag x := fun x hx => by
    unfold impl_diagramsOf.q
    rw [h3 x hx]
    cases noDiag x <;> rfl
  have hok : impl_diagramsOf.ok k (wordsF n) := ⟨fun x hx => by rw [h3 x hx]; rfl, by
    rw [idxG_congr _ 0 hq]
    exact h2 k (by omega)⟩
  show impl_diagramsOf.f k (n : Int) = _
  unfold impl_diagramsOf.f
  rw [Int.toNat_natCast, if_pos ⟨by omega, hok⟩, keepG_congr hq]
  rfl
theorem diag_loop (xs : List (List Int)) (hw : ∀ x ∈ xs, isWordB x = true) (hl : xs.length ≤ 1000) : ∀ (d i : Nat) (out : List (List Int)), i + d = xs.length → out.length ≤ i → Ev (fun n => spec_l02Diagrams.l0 n xs out (i : Int)) (out ++ keepG noDiag (xs.drop i)) := by
  intro d
  induction d with
  | zero =>
    intro i out hi ho
    refine Ev.step (fun n => by rw [spec_l02Diagrams.l0]) ?_
    rw [List.drop_eq_nil_of_le (by omega)]
    unfold keepG
    rw [List.filter_nil, List.append_nil]
    exact Ev.ite_neg (by omega) (Ev.now _)
  | succ d ih =>
    intro i out hi ho
    have hlt : i < xs.length := by omega
    have hwi := hw _ (List.getElem_mem hlt)
    have hlen := word_length hwi
    refine Ev.step (fun n => by rw [spec_l02Diagrams.l0]) ?_
    refine Ev.ite_pos (by omega) (Ev.ite_pos (by omega) ?_)
    rw [at_L1d hlt, List.drop_eq_getElem_cons hlt]
    refine Ev.bind (ev_spec_l01Least _ (by omega)) (Ev.bind (ev_spec_l01Same _ _ (by rw [leastL_length]; omega)) ?_)
    have e2 : wrap64 ((i : Int) + 1) = ((i + 1 : Nat) : Int) := by rw [wrap_of (by omega) (by omega)]; omega
    rw [e2]
    have hk : keepG noDiag (xs[i] :: xs.drop (i + 1)) = (if leastL xs[i] = xs[i] then [xs[i]] else []) ++ keepG noDiag (xs.drop (i + 1)) := by
      unfold keepG noDiag
      rw [List.filter_cons]
      by_cases c : leastL xs[i] = xs[i] <;> simp [c]
    rw [hk]
    by_cases c : leastL xs[i] = xs[i]
    · rw [if_pos c]
      refine Ev.ite_pos (decide_eq_true c) (Ev.ite_pos (by omega) ?_)
      rw [← List.append_assoc]
      exact ih (i + 1) _ (by omega) (by rw [List.length_append, List.length_singleton]; omega)
    · rw [if_neg c]
      refine Ev.ite_neg (by simpa using c) ?_
      rw [List.nil_append]
      exact ih (i + 1) _ (by omega) (by omega)
theorem ev_spec_l02Diagrams (n : Nat) (hn : n ≤ 5) : Ev (fun k => spec_l02Diagrams.f k (n : Int)) (diagsF n) := by
  unfold spec_l02Diagrams.f
  have h := diag_loop (wordsF n) (words_word n hn) (wordsF_le n hn) (wordsF n).length 0 [] (by omega) (Nat.le_refl _)
  rw [List.drop_zero, List.nil_append] at h
  exact Ev.bind (ev_all n hn) h
/-- What DiagramsOf answers. -/
def DiagramsOfR (a : Int) : List (List Int) × Int := if 0 ≤ a ∧ a ≤ 5 then (diagsF a.toNat, 0) else ([], 2)
theorem ev_spec_DiagramsOf (a : Int) : Ev (fun k => spec_DiagramsOf.f k a) (DiagramsOfR a) := by
  unfold spec_DiagramsOf.f spec_l01In.f DiagramsOfR
  by_cases c : 0 ≤ a ∧ a ≤ 5
  · rw [if_pos c, if_pos c.1]
    have h := ev_spec_l02Diagrams a.toNat (by omega)
    rw [Int.toNat_of_nonneg c.1] at h
    exact Ev.bind (Ev.const rfl) (Ev.ite_pos (decide_eq_true c.2) (Ev.bind h (Ev.now _)))
  · rw [if_neg c]
    by_cases d : a ≥ 0
    · rw [if_pos d]
      exact Ev.bind (Ev.const rfl) (Ev.ite_neg (by simp; omega) (Ev.now _))
    · rw [if_neg d]
      exact Ev.bind (Ev.const rfl) (Ev.ite_neg (by simp) (Ev.now _))
theorem ev_impl_DiagramsOf (a : Int) : Ev (fun k => impl_DiagramsOf.f k a) (DiagramsOfR a) := by
  unfold impl_DiagramsOf.f impl_in.f DiagramsOfR
  by_cases c : 0 ≤ a ∧ a ≤ 5
  · rw [if_pos c, if_pos c.1]
    have h := ev_impl_diagramsOf a.toNat (by omega)
    rw [Int.toNat_of_nonneg c.1] at h
    exact Ev.bind (Ev.const rfl) (Ev.ite_pos (decide_eq_true c.2) (Ev.bind h (Ev.now _)))
  · rw [if_neg c]
    by_cases d : a ≥ 0
    · rw [if_pos d]
      exact Ev.bind (Ev.const rfl) (Ev.ite_neg (by simp; omega) (Ev.now _))
    · rw [if_neg d]
      exact Ev.bind (Ev.const rfl) (Ev.ite_neg (by simp) (Ev.now _))
theorem DiagramsOfR_le (a : Int) : (DiagramsOfR a).1.length ≤ 1048 ∧ ∀ r ∈ (DiagramsOfR a).1, r.length ≤ 12 := by
  unfold DiagramsOfR
  by_cases c : 0 ≤ a ∧ a ≤ 5
  · rw [if_pos c]
    have h1 := wordsF_le a.toNat (by omega)
    have h2 : (diagsF a.toNat).length ≤ (wordsF a.toNat).length := List.length_filter_le _ _
    exact ⟨by simp only; omega, fun r hr => word_length (words_word a.toNat (by omega) r (List.mem_filter.1 hr).1)⟩
  · rw [if_neg c]
    exact ⟨by simp, fun r hr => by simp at hr⟩
theorem FnExactDiagramsOf : laws_FnExactDiagramsOf.Pure := by
  intro a0 hw
  obtain ⟨b1, b2⟩ := DiagramsOfR_le a0
  have b3 := total_le b2
  obtain ⟨K1, h1⟩ := ev_spec_DiagramsOf a0
  obtain ⟨K2, h2⟩ := ev_impl_DiagramsOf a0
  obtain ⟨K3, h3⟩ := ev_eqSS_same (DiagramsOfR a0).1 (by omega) (fun r hr => by have := b2 r hr; omega)
  obtain ⟨K4, h4⟩ := ev_markSS (DiagramsOfR a0).1 1 (by omega) (by omega) (by omega)
  obtain ⟨K5, h5⟩ := ev_heldSS (DiagramsOfR a0).1 1 (by omega) (by omega) (by omega)
  refine ⟨max K1 (max K2 (max K3 (max K4 K5))), _, _, _, _, h1 _ (by omega), h2 _ (by omega), h3 _ (by omega), h4 _ (by omega), h5 _ (by omega), by omega⟩
end Go.Proofs.Ytflpdjmdkdgijaa.Pure
