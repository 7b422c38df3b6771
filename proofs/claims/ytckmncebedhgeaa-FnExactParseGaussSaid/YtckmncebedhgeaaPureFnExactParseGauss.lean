/-
  The facts that the walk of laws.FnExactParseGauss is told: the program's ParseGauss answers as the reference's, for every text.
-/
import Derived.Test.YtckmncebedhgeaaEvK
import Derived.Test.YtckmncebedhgeaaEvQ
import Derived.Test.YtckmncebedhgeaaGlParseGauss
namespace Go.Proofs.Ytckmncebedhgeaa.Pure
open Go.RowKit Go.Proofs.Ytckmncebedhgeaa.G Go.Proofs.Ytckmncebedhgeaa.Plain Go.Proofs.YtckmncebedhgeaaW.PrintWords Go.Proofs.YtckmncebedhgeaaW.PrintLast
set_option linter.unusedVariables false

/-- One byte has been read. -/
def pst (b : Int) (g : List Int × List Int × List Int) : List Int × List Int × List Int :=
  if b = 43 then (g.1, g.2.1, g.2.2 ++ [1]) else if b = 45 then (g.1, g.2.1, g.2.2 ++ [-1]) else if b = 111 then (g.1, g.2.1 ++ [1], g.2.2) else if b = 117 then (g.1, g.2.1 ++ [0], g.2.2) else (g.1 ++ [b - 97], g.2.1, g.2.2)
def pK (t : ByteArray) : Nat → List Int × List Int × List Int
  | 0 => ([], [], [])
  | k + 1 => pst (bt t k) (pK t k)
theorem pst_le (b : Int) (g : List Int × List Int × List Int) : g.1.length ≤ (pst b g).1.length ∧ (pst b g).1.length ≤ g.1.length + 1 ∧ (pst b g).2.1.length ≤ g.2.1.length + 1 ∧ (pst b g).2.2.length ≤ g.2.2.length + 1 := by
  unfold pst
  repeat' split
  all_goals simp
theorem pK_le (t : ByteArray) : ∀ k, (pK t k).1.length ≤ k ∧ (pK t k).2.1.length ≤ k ∧ (pK t k).2.2.length ≤ k
  | 0 => by simp [pK]
  | k + 1 => by
    have h1 := pK_le t k
    have h2 := pst_le (bt t k) (pK t k)
    unfold pK
    omega
theorem pK_mono (t : ByteArray) (k : Nat) : ∀ d, (pK t k).1.length ≤ (pK t (k + d)).1.length
  | 0 => Nat.le_refl _
  | d + 1 => by
    have h1 := pK_mono t k d
    have h2 := pst_le (bt t (k + d : Nat)) (pK t (k + d))
    have e : pK t (k + (d + 1)) = pst (bt t (k + d : Nat)) (pK t (k + d)) := rfl
    rw [e]
    omega
theorem pK_wf (t : ByteArray) : ∀ k, wfB (pK t k).1 = true
  | 0 => rfl
  | k + 1 => by
    have h1 := pK_wf t k
    have hb := bt_range t k
    unfold pK pst
    repeat' split
    all_goals first
    | exact h1
    | (unfold wfB at h1 ⊢
       rw [List.all_append, h1, Bool.true_and, List.all_cons, List.all_nil, Bool.and_true]
       exact WalkArith.wf_i64 (by omega))
/-- The text of a code is not longer than twice its word. -/
theorem gtF_len (w h s : List Int) : ∀ k, k ≤ w.length → (gtF w h s k).length = k + 2 * (firsts (w.take k)).length
  | 0, _ => by simp [gtF, firsts]
  | k + 1, hk => by
    have ih := gtF_len w h s k (by omega)
    have hr : rd w (k : Int) = w[k] := rd_at (by omega)
    have ht : w.take (k + 1) = w.take k ++ [w[k]] := List.take_succ_eq_append_getElem (by omega)
    unfold gtF gtN
    rw [ht, firsts_snoc, hr, List.length_append, List.length_cons, ih]
    have hm := mem_firsts (w.take k) w[k]
    by_cases c : (w.take k).contains w[k] = true
    · have c2 : (firsts (w.take k)).contains w[k] = true := by simpa using hm.2 (by simpa using c)
      rw [if_pos c, if_pos c2]
      simp; omega
    · have c2 : ¬ (firsts (w.take k)).contains w[k] = true := fun h2 => c (by simpa using hm.1 (by simpa using h2))
      rw [if_neg c, if_neg c2]
      simp; omega
theorem gtF_small {w h s : List Int} (e : isGaussB w h s = true) : (gtF w h s w.length).length ≤ 24 := by
  have hw := (gauss_parts e).1
  have h1 := gtF_len w h s w.length (Nat.le_refl _)
  rw [List.take_length] at h1
  have h2 := word_even hw
  have h3 := word_length hw
  omega
/-- What a code that has been read whole answers. -/
def tellG (t : ByteArray) (g : List Int × List Int × List Int) : List Int × List Int × List Int × Int :=
  if isGaussB g.1 g.2.1 g.2.2 = true ∧ (strOfNums (gtF g.1 g.2.1 g.2.2 g.1.length)).toList = t.toList then (g.1, g.2.1, g.2.2, 0) else ([], [], [], 6)
def pgR (t : ByteArray) : List Int × List Int × List Int × Int := if t.size ≤ 24 then tellG t (pK t t.size) else ([], [], [], 6)
theorem size_toList (t : ByteArray) : t.toList.length = t.size := by
  rw [ByteArray.toList_eq] <;> first | exact data_length t | skip
theorem tell_long (t : ByteArray) (h : 24 < t.size) : tellG t (pK t t.size) = ([], [], [], 6) := by
  unfold tellG
  refine if_neg ?_
  rintro ⟨e1, e2⟩
  have h1 := gtF_small e1
  have h2 := congrArg List.length e2
  rw [size_toList, size_toList, strOfNums_size] at h2
  omega
theorem pgR_eq (t : ByteArray) : pgR t = tellG t (pK t t.size) := by
  unfold pgR
  by_cases c : t.size ≤ 24
  · rw [if_pos c]
  · rw [if_neg c, tell_long t (by omega)]
theorem pgR_many (t : ByteArray) {k : Nat} (hk : k ≤ t.size) (h : 12 < (pK t k).1.length) : pgR t = ([], [], [], 6) := by
  rw [pgR_eq]
  unfold tellG
  refine if_neg ?_
  rintro ⟨e1, _⟩
  have h1 := word_length (gauss_parts e1).1
  have h2 := pK_mono t k (t.size - k)
  have e : k + (t.size - k) = t.size := by omega
  rw [e] at h2
  omega
theorem spec_read_loop (t : ByteArray) (ht : t.size ≤ 24) : ∀ (d k : Nat), k ≤ t.size → t.size - k = d →
    Ev (fun n => spec_l07Read.l0 n t k (pK t k).1 (pK t k).2.1 (pK t k).2.2) ((pK t t.size).1, (pK t t.size).2.1, (pK t t.size).2.2, decide (isGaussB (pK t t.size).1 (pK t t.size).2.1 (pK t t.size).2.2 = true ∧ (strOfNums (gtF (pK t t.size).1 (pK t t.size).2.1 (pK t t.size).2.2 (pK t t.size).1.length)).toList = t.toList)) := by
  intro d
  induction d with
  | zero =>
    intro k hk hd
    obtain rfl : k = t.size := by omega
    have hle := pK_le t t.size
    refine Ev.step (fun n => by rw [spec_l07Read.l0]) (Ev.ite_neg (by omega) ?_)
    refine Ev.bind (ev_spec_l07Is _ _ _ (by omega) (by omega)) ?_
    by_cases e : isGaussB (pK t t.size).1 (pK t t.size).2.1 (pK t t.size).2.2 = true
    · refine Ev.ite_pos e (Ev.bind (ev_spec_l07Text _ _ _ e) (Ev.const ?_))
      congr 4
      rw [Bool.eq_iff_iff]
      simp [e]
    · refine Ev.ite_neg e (Ev.const ?_)
      congr 4
      rw [decide_eq_false (fun h => e h.1)]
  | succ d ih =>
    intro k hk hd
    have hlt : k < t.size := by omega
    have hle := pK_le t k
    have hb := bt_range t k
    have hn := ih (k + 1) (by omega) (by omega)
    refine Ev.step (fun n => by rw [spec_l07Read.l0]) (Ev.ite_pos (by omega) (Ev.ite_pos (by omega) ?_))
    rw [wrap_of (x := (k : Int) + 1) (by omega) (by omega), wrap_of (x := bt t k) (by omega) (by omega), wrap_of (x := bt t k - 97) (by omega) (by omega)]
    have e0 : pK t (k + 1) = pst (bt t k) (pK t k) := rfl
    rw [e0] at hn
    unfold pst at hn
    by_cases c1 : bt t k = 43
    · simp only [if_pos c1] at hn
      exact Ev.ite_pos c1 (Ev.ite_pos (by omega) hn)
    simp only [if_neg c1] at hn
    refine Ev.ite_neg c1 ?_
    by_cases c2 : bt t k = 45
    · simp only [if_pos c2] at hn
      exact Ev.ite_pos c2 (Ev.ite_pos (by omega) hn)
    simp only [if_neg c2] at hn
    refine Ev.ite_neg c2 ?_
    by_cases c3 : bt t k = 111
    · simp only [if_pos c3] at hn
      exact Ev.ite_pos c3 (Ev.ite_pos (by omega) hn)
    simp only [if_neg c3] at hn
    refine Ev.ite_neg c3 ?_
    by_cases c4 : bt t k = 117
    · simp only [if_pos c4] at hn
      exact Ev.ite_pos c4 (Ev.ite_pos (by omega) hn)
    simp only [if_neg c4] at hn
    exact Ev.ite_neg c4 (Ev.ite_pos (by omega) hn)
theorem ev_spec_ParseGauss (t : ByteArray) (ht : t.size ≤ 1048576) : Ev (fun n => spec_ParseGauss.f n t) (pgR t) := by
  unfold spec_ParseGauss.f spec_l07Read.f pgR
  by_cases c : t.size ≤ 24
  · have h1 := spec_read_loop t c t.size 0 (by omega) (by omega)
    have h2 : Ev (fun n => (some (([] : List Int) : List Int)).bind fun y102 => ((some (([] : List Int) : List Int)).bind fun y105 => ((some (([] : List Int) : List Int)).bind fun y108 => (if (t.size : Int) > 24 then (some (y102, y105, y108, false)) else (spec_l07Read.l0 n t 0 y102 y105 y108))))) _ := Ev.bind (Ev.now _) (Ev.bind (Ev.now _) (Ev.bind (Ev.now _) (Ev.ite_neg (by omega) h1)))
    refine Ev.bind h2 ?_
    rw [if_pos c]
    unfold tellG
    by_cases e : isGaussB (pK t t.size).1 (pK t t.size).2.1 (pK t t.size).2.2 = true ∧ (strOfNums (gtF (pK t t.size).1 (pK t t.size).2.1 (pK t t.size).2.2 (pK t t.size).1.length)).toList = t.toList
    · rw [if_pos e]
      exact Ev.ite_pos (decide_eq_true e) (Ev.now _)
    · rw [if_neg e]
      exact Ev.ite_neg (by rw [decide_eq_true_eq]; exact e) (Ev.now _)
  · rw [if_neg c]
    have h2 : Ev (fun n => (some (([] : List Int) : List Int)).bind fun y102 => ((some (([] : List Int) : List Int)).bind fun y105 => ((some (([] : List Int) : List Int)).bind fun y108 => (if (t.size : Int) > 24 then (some (y102, y105, y108, false)) else (spec_l07Read.l0 n t 0 y102 y105 y108))))) (([] : List Int), ([] : List Int), ([] : List Int), false) := Ev.bind (Ev.now _) (Ev.bind (Ev.now _) (Ev.bind (Ev.now _) (Ev.ite_pos (by omega) (Ev.now _))))
    exact Ev.bind h2 (Ev.ite_neg (by simp) (Ev.now _))
theorem impl_tell (t : ByteArray) (ht : t.size ≤ 1048576) (k : Nat) (hk : k ≤ t.size) : Ev (fun n => impl_ParseGauss.j1 n t k false (pK t k).1 (pK t k).2.1 (pK t k).2.2) (tellG t (pK t k)) := by
  have hle := pK_le t k
  refine Ev.step (fun n => by rw [impl_ParseGauss.j1]) (Ev.ite_neg (by simp) ?_)
  refine Ev.bind (ev_impl_IsGauss _ _ _ (pK_wf t k) (by omega) (by omega) (by omega)) ?_
  by_cases e : isGaussB (pK t k).1 (pK t k).2.1 (pK t k).2.2 = true
  · refine Ev.ite_pos e (Ev.bind (Ev.const (impl_gaussText_f _ _ _ e)) ?_)
    by_cases e2 : (strOfNums (gtF (pK t k).1 (pK t k).2.1 (pK t k).2.2 (pK t k).1.length)).toList = t.toList
    · have r : tellG t (pK t k) = ((pK t k).1, (pK t k).2.1, (pK t k).2.2, 0) := by unfold tellG; exact if_pos ⟨e, e2⟩
      rw [r]
      exact Ev.ite_pos e2 (Ev.now _)
    · have r : tellG t (pK t k) = ([], [], [], 6) := by unfold tellG; exact if_neg (fun h => e2 h.2)
      rw [r]
      exact Ev.ite_neg e2 (Ev.now _)
  · have r : tellG t (pK t k) = ([], [], [], 6) := by unfold tellG; exact if_neg (fun h => e h.1)
    rw [r]
    exact Ev.ite_neg e (Ev.now _)
theorem impl_read_loop (t : ByteArray) (ht : t.size ≤ 1048576) : ∀ (d k : Nat), k ≤ t.size → t.size - k = d → Ev (fun n => impl_ParseGauss.l0 n t k (pK t k).1 (pK t k).2.1 (pK t k).2.2) (pgR t) := by
  intro d
  induction d with
  | zero =>
    intro k hk hd
    obtain rfl : k = t.size := by omega
    refine Ev.step (fun n => by rw [impl_ParseGauss.l0]) (Ev.ite_neg (by omega) ?_)
    rw [pgR_eq]
    exact impl_tell t ht t.size (Nat.le_refl _)
  | succ d ih =>
    intro k hk hd
    have hlt : k < t.size := by omega
    have hle := pK_le t k
    have hb := bt_range t k
    have hn := ih (k + 1) (by omega) (by omega)
    refine Ev.step (fun n => by rw [impl_ParseGauss.l0]) (Ev.ite_pos (by omega) ?_)
    by_cases c : (pK t k).1.length ≤ 12
    · rw [decide_eq_true (show ((pK t k).1.length : Int) ≤ 12 by omega)]
      refine Ev.step (fun n => by rw [impl_ParseGauss.j1]) (Ev.ite_pos rfl (Ev.ite_pos (by omega) (Ev.ite_pos (by omega) ?_)))
      rw [wrap_of (x := (k : Int) + 1) (by omega) (by omega), wrap_of (x := bt t k) (by omega) (by omega), wrap_of (x := bt t k - 97) (by omega) (by omega)]
      have e0 : pK t (k + 1) = pst (bt t k) (pK t k) := rfl
      rw [e0] at hn
      unfold pst at hn
      by_cases c1 : bt t k = 43
      · simp only [if_pos c1] at hn
        exact Ev.ite_pos c1 (Ev.ite_pos (by omega) hn)
      simp only [if_neg c1] at hn
      refine Ev.ite_neg c1 ?_
      by_cases c2 : bt t k = 45
      · simp only [if_pos c2] at hn
        exact Ev.ite_pos c2 (Ev.ite_pos (by omega) hn)
      simp only [if_neg c2] at hn
      refine Ev.ite_neg c2 ?_
      by_cases c3 : bt t k = 111
      · simp only [if_pos c3] at hn
        exact Ev.ite_pos c3 (Ev.ite_pos (by omega) hn)
      simp only [if_neg c3] at hn
      refine Ev.ite_neg c3 ?_
      by_cases c4 : bt t k = 117
      · simp only [if_pos c4] at hn
        exact Ev.ite_pos c4 (Ev.ite_pos (by omega) hn)
      simp only [if_neg c4] at hn
      exact Ev.ite_neg c4 (Ev.ite_pos (by omega) hn)
    · rw [decide_eq_false (show ¬ ((pK t k).1.length : Int) ≤ 12 by omega), pgR_many t hk (by omega)]
      have h1 := impl_tell t ht k hk
      have h2 : tellG t (pK t k) = ([], [], [], 6) := by
        unfold tellG
        refine if_neg ?_
        rintro ⟨e1, _⟩
        have := word_length (gauss_parts e1).1
        omega
      rw [h2] at h1
      exact h1
theorem pgR_le (t : ByteArray) (ht : t.size ≤ 1048576) : (pgR t).1.length ≤ 1048576 ∧ (pgR t).2.1.length ≤ 1048576 ∧ (pgR t).2.2.1.length ≤ 1048576 := by
  have h := pK_le t t.size
  rw [pgR_eq]
  unfold tellG
  split
  · exact ⟨by show (pK t t.size).1.length ≤ _; omega, by show (pK t t.size).2.1.length ≤ _; omega, by show (pK t t.size).2.2.length ≤ _; omega⟩
  · simp
theorem FnExactParseGauss : laws_FnExactParseGauss.Pure := by
  intro t ht
  obtain ⟨b0, b1, b2⟩ := pgR_le t ht
  have h2' := ev_spec_ParseGauss t ht
  have h3' : Ev (fun n => impl_ParseGauss.f n t) (pgR t) := impl_read_loop t ht t.size 0 (by omega) (by omega)
  generalize pgR t = R at b0 b1 b2 h2' h3'
  obtain ⟨g0, g1, g2, c⟩ := R
  obtain ⟨K2, h2⟩ := h2'
  obtain ⟨K3, h3⟩ := h3'
  obtain ⟨K4, h4⟩ := ev_eqGauss_same g0 g1 g2 b0 b1 b2
  obtain ⟨K7, h7⟩ := ev_markGauss g0 g1 g2 b0 b1 b2
  obtain ⟨K8, h8⟩ := ev_heldGauss g0.length g1.length g2.length b0 b1 b2
  exact ⟨max K2 (max K3 (max K4 (max K7 K8))), c, _, g0, g1, g2, _, _, _, h2 _ (by omega), h3 _ (by omega), h4 _ (by omega), h7 _ (by omega), h8 _ (by omega), by omega⟩
end Go.Proofs.Ytckmncebedhgeaa.Pure
