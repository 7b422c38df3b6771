/-
  The facts that the walk of laws.FnExactSwitchChord is told: the program's SwitchChord answers as the reference's, for every code and every number.
-/
import Derived.Test.YtckmncebedhgeaaEvQ
import Derived.Test.YtckmncebedhgeaaGgI
import Derived.Test.YtckmncebedhgeaaGgV
import Derived.Test.YtckmncebedhgeaaGlSwitchChord
namespace Go.Proofs.Ytckmncebedhgeaa.Pure
open Go.RowKit Go.Proofs.Ytckmncebedhgeaa.G Go.Proofs.Ytckmncebedhgeaa.Plain Go.Proofs.YtckmncebedhgeaaW.PrintWords Go.Proofs.YtckmncebedhgeaaW.PrintLast
set_option linter.unusedVariables false

def turn1 (x : Int) : Int := wrap64 (1 - x)
def neg1 (x : Int) : Int := wrap64 (-x)
theorem clone_f {l : List Int} (h : l.length < 17592186044416) : slices_Clone_int64_int64.f l = some l := by
  unfold slices_Clone_int64_int64.f; rw [if_pos h]
theorem own_f {l : List Int} (h : l.length < 17592186044416) : spec_l01Own.f l = some l := by
  unfold spec_l01Own.f
  rw [Option.bind_some, if_pos (by simpa using h), List.nil_append]
theorem sw_in_f (a b c : Int) : spec_l01In.f a b c = some (decide (b ≤ a ∧ a ≤ c)) := by
  unfold spec_l01In.f
  by_cases h : a ≥ b
  · rw [if_pos h]
    congr 1
    have : b ≤ a := h
    simp [this]
  · rw [if_neg h]
    congr 1
    have : ¬ b ≤ a := h
    simp [this]
theorem sw_chord_f {w : List Int} (h : w.length ≤ 9223372036854775807) (i : Int) : impl_isChord.f w i = some (decide (0 ≤ i ∧ i ≤ ((w.length / 2 : Nat) : Int) - 1)) := by
  unfold impl_isChord.f impl_chords.f impl_in.f
  have e : wrap64 ((w.length : Int) / 2) = (w.length / 2 : Nat) := by rw [wrap_of (by omega) (by omega)]; omega
  rw [e]
  simp only [Option.bind_some]
  rw [wrap_of (by omega) (by omega)]
  by_cases h2 : i ≥ 0
  · rw [if_pos h2, Option.bind_some]
    congr 1
    have : 0 ≤ i := h2
    simp [this]
  · rw [if_neg h2, Option.bind_some]
    congr 1
    have : ¬ 0 ≤ i := h2
    simp [this]
/-- One place has been passed, or not yet. -/
def setP (f : Int → Int) (l : List Int) (a k : Nat) : List Int := if a < k then l.set a (f (l.getD a 0)) else l
theorem setP_length (f : Int → Int) (l : List Int) (a k : Nat) : (setP f l a k).length = l.length := by unfold setP; split <;> simp
theorem setP_rd (f : Int → Int) {l : List Int} {a : Nat} (h : a < l.length) : rd (setP f l a a) a = l.getD a 0 := by
  unfold setP
  rw [if_neg (by omega), rd_at h, List.getD_eq_getElem?_getD, List.getElem?_eq_getElem h]; rfl
theorem setP_set (f : Int → Int) (l : List Int) (a : Nat) : (setP f l a a).set a (f (l.getD a 0)) = setP f l a (a + 1) := by
  unfold setP
  rw [if_neg (by omega), if_pos (by omega)]
theorem setP_other (f : Int → Int) (l : List Int) {a k : Nat} (h : k ≠ a) : setP f l a (k + 1) = setP f l a k := by
  unfold setP
  by_cases c : a < k
  · rw [if_pos c, if_pos (by omega)]
  · rw [if_neg c, if_neg (by omega)]
def atP (a : Nat) : Int → Option Bool := fun x => some (decide (x = (a : Int)))
theorem heads_loop (l : List Int) (hl : l.length ≤ 1048576) (a : Nat) : ∀ (d k : Nat), k ≤ l.length → l.length - k = d → Ev (fun n => impl_turnedHeads.l0 (atP a) n (setP turn1 l a k) (l.length : Int) k) (setP turn1 l a l.length) := by
  intro d
  induction d with
  | zero =>
    intro k hk hd
    obtain rfl : k = l.length := by omega
    refine Ev.step (fun n => by rw [impl_turnedHeads.l0]) (Ev.ite_neg (by omega) ?_)
    exact Ev.now _
  | succ d ih =>
    intro k hk hd
    have h : k < l.length := by omega
    have hp := setP_length turn1 l a k
    have i := ih (k + 1) (by omega) (by omega)
    refine Ev.step (fun n => by rw [impl_turnedHeads.l0]) ?_
    refine Ev.ite_pos (by omega) ?_
    refine Ev.bind (Ev.const (show atP a (k : Int) = some (decide ((k : Int) = (a : Int))) from rfl)) ?_
    by_cases e : k = a
    · subst e
      refine Ev.ite_pos (by simp) (Ev.ite_pos (by omega) (Ev.ite_pos (by omega) ?_))
      rw [Int.toNat_natCast, setP_rd turn1 h, wrap_of (x := (k : Int) + 1) (by omega) (by omega)]
      have e2 := setP_set turn1 l k
      rw [← e2] at i
      exact i
    · refine Ev.ite_neg (by simp; omega) ?_
      rw [wrap_of (x := (k : Int) + 1) (by omega) (by omega)]
      rw [setP_other turn1 l e] at i
      exact i
theorem signs_loop (l : List Int) (hl : l.length ≤ 1048576) (a : Nat) : ∀ (d k : Nat), k ≤ l.length → l.length - k = d → Ev (fun n => impl_opposite.l0 (atP a) n (setP neg1 l a k) (l.length : Int) k) (setP neg1 l a l.length) := by
  intro d
  induction d with
  | zero =>
    intro k hk hd
    obtain rfl : k = l.length := by omega
    refine Ev.step (fun n => by rw [impl_opposite.l0]) (Ev.ite_neg (by omega) ?_)
    exact Ev.now _
  | succ d ih =>
    intro k hk hd
    have h : k < l.length := by omega
    have hp := setP_length neg1 l a k
    have i := ih (k + 1) (by omega) (by omega)
    refine Ev.step (fun n => by rw [impl_opposite.l0]) ?_
    refine Ev.ite_pos (by omega) ?_
    refine Ev.bind (Ev.const (show atP a (k : Int) = some (decide ((k : Int) = (a : Int))) from rfl)) ?_
    by_cases e : k = a
    · subst e
      refine Ev.ite_pos (by simp) (Ev.ite_pos (by omega) (Ev.ite_pos (by omega) ?_))
      rw [Int.toNat_natCast, setP_rd neg1 h, wrap_of (x := (k : Int) + 1) (by omega) (by omega)]
      have e2 := setP_set neg1 l k
      rw [← e2] at i
      exact i
    · refine Ev.ite_neg (by simp; omega) ?_
      rw [wrap_of (x := (k : Int) + 1) (by omega) (by omega)]
      rw [setP_other neg1 l e] at i
      exact i
/-- What SwitchChord answers. -/
def swiR (w h s : List Int) (a : Int) : List Int × List Int × List Int × Int :=
  if isGaussB w h s = true then (if 0 ≤ a ∧ a ≤ ((w.length / 2 : Nat) : Int) - 1 then (w, setP turn1 h a.toNat h.length, setP neg1 s a.toNat s.length, 0) else ([], [], [], 2)) else ([], [], [], 1)
theorem gauss_len {w h s : List Int} (e : isGaussB w h s = true) : h.length = w.length / 2 ∧ s.length = w.length / 2 := by
  unfold isGaussB at e
  simp only [Bool.and_eq_true, decide_eq_true_eq] at e
  exact ⟨e.2.1, e.2.2.1⟩
theorem ev_spec_SwitchChord (w h s : List Int) (a : Int) (hw : w.length ≤ 1048576) (hh : h.length ≤ 1048576) (hs : s.length ≤ 1048576) : Ev (fun n => spec_SwitchChord.f n w h s a) (swiR w h s a) := by
  unfold spec_SwitchChord.f swiR
  have K : Ev (fun n => spec_l07Chord.f n w h s [a]) (if isGaussB w h s = true then (if 0 ≤ a ∧ a ≤ ((w.length / 2 : Nat) : Int) - 1 then 0 else 2) else 1) := by
    unfold spec_l07Chord.f
    refine Ev.bind (ev_spec_l07Is w h s hw hs) ?_
    by_cases e : isGaussB w h s = true
    · have hg := gauss_len e
      refine Ev.ite_pos e ?_
      rw [if_pos e]
      refine Ev.step (fun n => by rw [spec_l07Chord.l0]) ?_
      refine Ev.ite_pos (by simp) (Ev.ite_pos (by omega) ?_)
      have r0 : rd [a] 0 = a := rfl
      rw [r0, wrap_of (x := (s.length : Int) - 1) (by omega) (by omega), hg.2]
      refine Ev.bind (Ev.const (sw_in_f a 0 _)) ?_
      by_cases c : 0 ≤ a ∧ a ≤ ((w.length / 2 : Nat) : Int) - 1
      · refine Ev.ite_pos (decide_eq_true c) ?_
        rw [if_pos c, wrap_of (x := (0 : Int) + 1) (by omega) (by omega)]
        refine Ev.step (fun n => by rw [spec_l07Chord.l0]) ?_
        exact Ev.ite_neg (by simp) (Ev.now _)
      · refine Ev.ite_neg (by rw [decide_eq_true_eq]; exact c) ?_
        rw [if_neg c]
        exact Ev.now _
    · refine Ev.ite_neg e ?_
      rw [if_neg e]
      exact Ev.now _
  refine Ev.bind K ?_
  by_cases e : isGaussB w h s = true
  · have hg := gauss_len e
    simp only [if_pos e]
    by_cases c : 0 ≤ a ∧ a ≤ ((w.length / 2 : Nat) : Int) - 1
    · simp only [if_pos c]
      refine Ev.ite_pos trivial ?_
      have T : spec_l07Copy.f w h s = some (w, h, s) := by
        unfold spec_l07Copy.f
        rw [own_f (by omega), Option.bind_some, own_f (by omega), Option.bind_some, own_f (by omega), Option.bind_some]
      refine Ev.bind (Ev.const T) (Ev.ite_pos c.1 (Ev.ite_pos (by show a < (h.length : Int); omega) (Ev.ite_pos (by show a < (s.length : Int); omega) ?_)))
      obtain ⟨m, rfl⟩ := Int.eq_ofNat_of_zero_le c.1
      have e1 : h.set m (wrap64 (1 - rd h (m : Int))) = setP turn1 h m h.length := by
        unfold setP turn1 rd
        rw [if_pos (by omega), Int.toNat_natCast]
      have e2 : s.set m (wrap64 (-(rd s (m : Int)))) = setP neg1 s m s.length := by
        unfold setP neg1 rd
        rw [if_pos (by omega), Int.toNat_natCast]
      simp only [Int.toNat_natCast]
      rw [e1, e2]
      exact Ev.now _
    · simp only [if_neg c]
      exact Ev.ite_neg (by decide) (Ev.now _)
  · simp only [if_neg e]
    exact Ev.ite_neg (by decide) (Ev.now _)
theorem ev_impl_SwitchChord (w h s : List Int) (a : Int) (hf : wfB w = true) (hw : w.length ≤ 1048576) (hh : h.length ≤ 1048576) (hs : s.length ≤ 1048576) : Ev (fun n => impl_SwitchChord.f n w h s a) (swiR w h s a) := by
  unfold impl_SwitchChord.f swiR
  refine Ev.bind (ev_impl_IsGauss w h s hf hw hh hs) ?_
  by_cases e : isGaussB w h s = true
  · have hg := gauss_len e
    refine Ev.ite_pos e ?_
    simp only [if_pos e]
    refine Ev.bind (Ev.const (sw_chord_f (by omega) a)) ?_
    by_cases c : 0 ≤ a ∧ a ≤ ((w.length / 2 : Nat) : Int) - 1
    · refine Ev.ite_pos (decide_eq_true c) ?_
      simp only [if_pos c]
      obtain ⟨m, rfl⟩ := Int.eq_ofNat_of_zero_le c.1
      simp only [Int.toNat_natCast]
      have C : ∀ {l : List Int}, l.length ≤ 1048576 → slices_Clone_int64_int64.f l = some l := fun hl => clone_f (by omega)
      have s0 : ∀ (f : Int → Int) (l : List Int), setP f l m 0 = l := fun f l => by unfold setP; rw [if_neg (by omega)]
      have T : Ev (fun n => impl_turnedHeads.f (atP m) n h) (setP turn1 h m h.length) := by
        unfold impl_turnedHeads.f
        refine Ev.bind (Ev.const (C hh)) ?_
        have := heads_loop h hh m h.length 0 (by omega) (by omega)
        rw [s0] at this
        simpa using this
      have O : Ev (fun n => impl_opposite.f (atP m) n s) (setP neg1 s m s.length) := by
        unfold impl_opposite.f
        refine Ev.bind (Ev.const (C hs)) ?_
        have := signs_loop s hs m s.length 0 (by omega) (by omega)
        rw [s0] at this
        simpa using this
      have A : Ev (fun n => impl_switched.f (fun x => some (decide (x = (m : Int)))) n w h s) (w, setP turn1 h m h.length, setP neg1 s m s.length) := by
        unfold impl_switched.f
        exact Ev.bind (Ev.const (C hw)) (Ev.bind T (Ev.bind O (Ev.now _)))
      exact Ev.bind A (Ev.now _)
    · refine Ev.ite_neg (by rw [decide_eq_true_eq]; exact c) ?_
      simp only [if_neg c]
      exact Ev.now _
  · refine Ev.ite_neg e ?_
    simp only [if_neg e]
    exact Ev.now _
theorem swiR_le (w h s : List Int) (a : Int) (hw : w.length ≤ 1048576) (hh : h.length ≤ 1048576) (hs : s.length ≤ 1048576) : (swiR w h s a).1.length ≤ 1048576 ∧ (swiR w h s a).2.1.length ≤ 1048576 ∧ (swiR w h s a).2.2.1.length ≤ 1048576 := by
  have h1 := setP_length turn1 h a.toNat h.length
  have h2 := setP_length neg1 s a.toNat s.length
  unfold swiR
  split
  · split
    · exact ⟨hw, by show (setP turn1 h a.toNat h.length).length ≤ _; omega, by show (setP neg1 s a.toNat s.length).length ≤ _; omega⟩
    · simp
  · simp
theorem FnExactSwitchChord (l0 l1 l2 : List Int) (i : Int) (hm0 : l0.length ≤ maxLen) (hm1 : l1.length ≤ maxLen) (hm2 : l2.length ≤ maxLen) (hw0 : ∀ x ∈ l0, (Lit.int .i64 x).wf = true) (hw1 : ∀ x ∈ l1, (Lit.int .i64 x).wf = true) (hw2 : ∀ x ∈ l2, (Lit.int .i64 x).wf = true) :
    (∃ s, laws_szGauss.f l0 l1 l2 1048576 = some s ∧ s < 0) ∨ ∃ k s c m0 m g0 g1 g2 q0 q1 q2 p0 p1 p2, laws_FnExactSwitchChord.Told l0 l1 l2 i k s c m0 m g0 g1 g2 q0 q1 q2 p0 p1 p2 := by
  obtain ⟨r, er, hr⟩ := szGauss_f l0 l1 l2 hm0 hm1 hm2
  rcases hr with hr | ⟨hr, hl⟩
  · exact .inl ⟨r, er, hr⟩
  · have hf : wfB l0 = true := List.all_eq_true.2 hw0
    obtain ⟨b0, b1, b2⟩ := swiR_le l0 l1 l2 i (by omega) (by omega) (by omega)
    have h2' := ev_spec_SwitchChord l0 l1 l2 i (by omega) (by omega) (by omega)
    have h3' := ev_impl_SwitchChord l0 l1 l2 i hf (by omega) (by omega) (by omega)
    generalize swiR l0 l1 l2 i = R at b0 b1 b2 h2' h3'
    obtain ⟨g0, g1, g2, c⟩ := R
    obtain ⟨K1, h1⟩ := ev_toGauss l0 l1 l2 (by omega) (by omega) (by omega)
    obtain ⟨K2, h2⟩ := h2'
    obtain ⟨K3, h3⟩ := h3'
    obtain ⟨K4, h4⟩ := ev_eqGauss_same g0 g1 g2 b0 b1 b2
    obtain ⟨K5, h5⟩ := ev_eqGauss_same l0 l1 l2 (by omega) (by omega) (by omega)
    obtain ⟨K6, h6⟩ := ev_markGauss l0 l1 l2 (by omega) (by omega) (by omega)
    obtain ⟨K7, h7⟩ := ev_markGauss g0 g1 g2 b0 b1 b2
    obtain ⟨K8, h8⟩ := ev_heldGauss g0.length g1.length g2.length b0 b1 b2
    exact .inr ⟨max K1 (max K2 (max K3 (max K4 (max K5 (max K6 (max K7 K8)))))), r, c, _, _, g0, g1, g2, _, _, _, _, _, _, er, h1 _ (by omega), h2 _ (by omega), h3 _ (by omega), h4 _ (by omega), h5 _ (by omega), h6 _ (by omega), h7 _ (by omega), h8 _ (by omega), hr, by omega, by omega⟩
end Go.Proofs.Ytckmncebedhgeaa.Pure
