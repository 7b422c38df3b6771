/-
  The facts that the walk of laws.FnExactMirrorGauss is told: the program's MirrorGauss answers as the reference's, for every code.
-/
import Derived.Test.YtckmncebedhgeaaEvQ
import Derived.Test.YtckmncebedhgeaaGgJ
import Derived.Test.YtckmncebedhgeaaGlMirrorGauss
namespace Go.Proofs.Ytckmncebedhgeaa.Pure
open Go.RowKit Go.Proofs.Ytckmncebedhgeaa.G Go.Proofs.Ytckmncebedhgeaa.Plain Go.Proofs.YtckmncebedhgeaaW.PrintWords Go.Proofs.YtckmncebedhgeaaW.PrintLast
set_option linter.unusedVariables false

def turn1 (x : Int) : Int := wrap64 (1 - x)
def neg1 (x : Int) : Int := wrap64 (-x)
theorem clone_f {l : List Int} (h : l.length < 17592186044416) : slices_Clone_int64_int64.f l = some l := by
  unfold slices_Clone_int64_int64.f; rw [if_pos h]
theorem own_f {l : List Int} (h : l.length < 17592186044416) : spec_l01Own.f l = some l := by
  unfold spec_l01Own.f
  rw [Option.bind_some, if_pos (by simpa using h), List.nil_append]
theorem turned_loop (l : List Int) (hl : l.length ≤ 1048576) : ∀ (d k : Nat), k ≤ l.length → l.length - k = d → Ev (fun n => spec_l07Turned.l0 n l ((l.take k).map turn1) k) (l.map turn1) := by
  intro d
  induction d with
  | zero =>
    intro k hk hd
    obtain rfl : k = l.length := by omega
    refine Ev.step (fun n => by rw [spec_l07Turned.l0]) (Ev.ite_neg (by omega) ?_)
    rw [List.take_length]
    exact Ev.now _
  | succ d ih =>
    intro k hk hd
    have h : k < l.length := by omega
    refine Ev.step (fun n => by rw [spec_l07Turned.l0]) (Ev.ite_pos (by omega) (Ev.ite_pos (by omega) (Ev.ite_pos (by simp; omega) ?_)))
    rw [rd_at h, wrap_of (x := (k : Int) + 1) (by omega) (by omega)]
    have e := map_take_succ turn1 h
    have i := ih (k + 1) (by omega) (by omega)
    rw [e] at i
    exact i
theorem mirror_loop (w h s w2 t : List Int) (hs : s.length ≤ 1048576) : ∀ (d k : Nat), k ≤ s.length → s.length - k = d → Ev (fun n => spec_MirrorGauss.l0 n k w h s w2 t ((s.take k).map neg1)) (w2, t, s.map neg1, 0) := by
  intro d
  induction d with
  | zero =>
    intro k hk hd
    obtain rfl : k = s.length := by omega
    refine Ev.step (fun n => by rw [spec_MirrorGauss.l0]) (Ev.ite_neg (by omega) ?_)
    rw [List.take_length]
    exact Ev.now _
  | succ d ih =>
    intro k hk hd
    have h : k < s.length := by omega
    refine Ev.step (fun n => by rw [spec_MirrorGauss.l0]) (Ev.ite_pos (by omega) (Ev.ite_pos (by omega) (Ev.ite_pos (by simp; omega) ?_)))
    rw [rd_at h, wrap_of (x := (k : Int) + 1) (by omega) (by omega)]
    have e := map_take_succ neg1 h
    have i := ih (k + 1) (by omega) (by omega)
    rw [e] at i
    exact i
theorem heads_loop (l : List Int) (hl : l.length ≤ 1048576) : ∀ (d k : Nat), k ≤ l.length → l.length - k = d → Ev (fun n => impl_turnedHeads_at_impl_every.l0 n (mapP turn1 l k) (l.length : Int) k) (l.map turn1) := by
  intro d
  induction d with
  | zero =>
    intro k hk hd
    obtain rfl : k = l.length := by omega
    refine Ev.step (fun n => by rw [impl_turnedHeads_at_impl_every.l0]) (Ev.ite_neg (by omega) ?_)
    rw [mapP_all]
    exact Ev.now _
  | succ d ih =>
    intro k hk hd
    have h : k < l.length := by omega
    have hp := mapP_length turn1 l k
    refine Ev.step (fun n => by rw [impl_turnedHeads_at_impl_every.l0]) ?_
    refine Ev.ite_pos (by omega) ?_
    refine Ev.bind (Ev.const (show impl_every.f (k : Int) = some true from rfl)) ?_
    refine Ev.ite_pos rfl (Ev.ite_pos (by omega) (Ev.ite_pos (by omega) ?_))
    rw [Int.toNat_natCast, mapP_rd turn1 h, wrap_of (x := (k : Int) + 1) (by omega) (by omega)]
    have e := mapP_set turn1 h
    have i := ih (k + 1) (by omega) (by omega)
    rw [← e] at i
    exact i
theorem signs_loop (l : List Int) (hl : l.length ≤ 1048576) : ∀ (d k : Nat), k ≤ l.length → l.length - k = d → Ev (fun n => impl_opposite_at_impl_every.l0 n (mapP neg1 l k) (l.length : Int) k) (l.map neg1) := by
  intro d
  induction d with
  | zero =>
    intro k hk hd
    obtain rfl : k = l.length := by omega
    refine Ev.step (fun n => by rw [impl_opposite_at_impl_every.l0]) (Ev.ite_neg (by omega) ?_)
    rw [mapP_all]
    exact Ev.now _
  | succ d ih =>
    intro k hk hd
    have h : k < l.length := by omega
    have hp := mapP_length neg1 l k
    refine Ev.step (fun n => by rw [impl_opposite_at_impl_every.l0]) ?_
    refine Ev.ite_pos (by omega) ?_
    refine Ev.bind (Ev.const (show impl_every.f (k : Int) = some true from rfl)) ?_
    refine Ev.ite_pos rfl (Ev.ite_pos (by omega) (Ev.ite_pos (by omega) ?_))
    rw [Int.toNat_natCast, mapP_rd neg1 h, wrap_of (x := (k : Int) + 1) (by omega) (by omega)]
    have e := mapP_set neg1 h
    have i := ih (k + 1) (by omega) (by omega)
    rw [← e] at i
    exact i
def mirW (w h s : List Int) : List Int := if isGaussB w h s = true then w else []
def mirH (w h s : List Int) : List Int := if isGaussB w h s = true then h.map turn1 else []
def mirS (w h s : List Int) : List Int := if isGaussB w h s = true then s.map neg1 else []
def mirC (w h s : List Int) : Int := if isGaussB w h s = true then 0 else 1
theorem ev_spec_MirrorGauss (w h s : List Int) (hw : w.length ≤ 1048576) (hh : h.length ≤ 1048576) (hs : s.length ≤ 1048576) : Ev (fun n => spec_MirrorGauss.f n w h s) (mirW w h s, mirH w h s, mirS w h s, mirC w h s) := by
  unfold spec_MirrorGauss.f mirW mirH mirS mirC
  refine Ev.bind (ev_spec_l07Is w h s hw hs) ?_
  by_cases e : isGaussB w h s = true
  · refine Ev.ite_pos e ?_
    simp only [if_pos e]
    refine Ev.bind (Ev.const (own_f (by omega))) ?_
    have T : Ev (fun n => spec_l07Turned.f n h) (h.map turn1) := by
      unfold spec_l07Turned.f
      have := turned_loop h hh h.length 0 (by omega) (by omega)
      simpa using this
    refine Ev.bind T ?_
    have := mirror_loop w h s w (h.map turn1) hs s.length 0 (by omega) (by omega)
    simpa using this
  · refine Ev.ite_neg e ?_
    simp only [if_neg e]
    exact Ev.now _
theorem ev_impl_MirrorGauss (w h s : List Int) (hf : wfB w = true) (hw : w.length ≤ 1048576) (hh : h.length ≤ 1048576) (hs : s.length ≤ 1048576) : Ev (fun n => impl_MirrorGauss.f n w h s) (mirW w h s, mirH w h s, mirS w h s, mirC w h s) := by
  unfold impl_MirrorGauss.f mirW mirH mirS mirC
  refine Ev.bind (ev_impl_IsGauss w h s hf hw hh hs) ?_
  by_cases e : isGaussB w h s = true
  · refine Ev.ite_pos e ?_
    simp only [if_pos e]
    have C : ∀ {l : List Int}, l.length ≤ 1048576 → slices_Clone_int64_int64.f l = some l := fun hl => clone_f (by omega)
    have T : Ev (fun n => impl_turnedHeads_at_impl_every.f n h) (h.map turn1) := by
      unfold impl_turnedHeads_at_impl_every.f
      refine Ev.bind (Ev.const (C hh)) ?_
      have := heads_loop h hh h.length 0 (by omega) (by omega)
      rw [mapP_none] at this
      simpa using this
    have O : Ev (fun n => impl_opposite_at_impl_every.f n s) (s.map neg1) := by
      unfold impl_opposite_at_impl_every.f
      refine Ev.bind (Ev.const (C hs)) ?_
      have := signs_loop s hs s.length 0 (by omega) (by omega)
      rw [mapP_none] at this
      simpa using this
    have A : Ev (fun n => impl_switched_at_impl_every.f n w h s) (w, h.map turn1, s.map neg1) := by
      unfold impl_switched_at_impl_every.f
      exact Ev.bind (Ev.const (C hw)) (Ev.bind T (Ev.bind O (Ev.now _)))
    exact Ev.bind A (Ev.now _)
  · refine Ev.ite_neg e ?_
    simp only [if_neg e]
    exact Ev.now _
theorem FnExactMirrorGauss (l0 l1 l2 : List Int) (hm0 : l0.length ≤ maxLen) (hm1 : l1.length ≤ maxLen) (hm2 : l2.length ≤ maxLen) (hw0 : ∀ x ∈ l0, (Lit.int .i64 x).wf = true) (hw1 : ∀ x ∈ l1, (Lit.int .i64 x).wf = true) (hw2 : ∀ x ∈ l2, (Lit.int .i64 x).wf = true) :
    (∃ s, laws_szGauss.f l0 l1 l2 1048576 = some s ∧ s < 0) ∨ ∃ k s c m0 m g0 g1 g2 q0 q1 q2 p0 p1 p2, laws_FnExactMirrorGauss.Told l0 l1 l2 k s c m0 m g0 g1 g2 q0 q1 q2 p0 p1 p2 := by
  obtain ⟨r, er, hr⟩ := szGauss_f l0 l1 l2 hm0 hm1 hm2
  rcases hr with hr | ⟨hr, hl⟩
  · exact .inl ⟨r, er, hr⟩
  · have hf : wfB l0 = true := List.all_eq_true.2 hw0
    have b0 : (mirW l0 l1 l2).length ≤ 1048576 := by unfold mirW; split <;> first | omega | (simp; done) | (simp; omega)
    have b1 : (mirH l0 l1 l2).length ≤ 1048576 := by unfold mirH; split <;> first | omega | (simp; done) | (simp; omega)
    have b2 : (mirS l0 l1 l2).length ≤ 1048576 := by unfold mirS; split <;> first | omega | (simp; done) | (simp; omega)
    obtain ⟨K1, h1⟩ := ev_toGauss l0 l1 l2 (by omega) (by omega) (by omega)
    obtain ⟨K2, h2⟩ := ev_spec_MirrorGauss l0 l1 l2 (by omega) (by omega) (by omega)
    obtain ⟨K3, h3⟩ := ev_impl_MirrorGauss l0 l1 l2 hf (by omega) (by omega) (by omega)
    obtain ⟨K4, h4⟩ := ev_eqGauss_same (mirW l0 l1 l2) (mirH l0 l1 l2) (mirS l0 l1 l2) b0 b1 b2
    obtain ⟨K5, h5⟩ := ev_eqGauss_same l0 l1 l2 (by omega) (by omega) (by omega)
    obtain ⟨K6, h6⟩ := ev_markGauss l0 l1 l2 (by omega) (by omega) (by omega)
    obtain ⟨K7, h7⟩ := ev_markGauss (mirW l0 l1 l2) (mirH l0 l1 l2) (mirS l0 l1 l2) b0 b1 b2
    obtain ⟨K8, h8⟩ := ev_heldGauss (mirW l0 l1 l2).length (mirH l0 l1 l2).length (mirS l0 l1 l2).length b0 b1 b2
    exact .inr ⟨max K1 (max K2 (max K3 (max K4 (max K5 (max K6 (max K7 K8)))))), r, _, _, _, _, _, _, _, _, _, _, _, _, er, h1 _ (by omega), h2 _ (by omega), h3 _ (by omega), h4 _ (by omega), h5 _ (by omega), h6 _ (by omega), h7 _ (by omega), h8 _ (by omega), hr, by omega, by omega⟩
end Go.Proofs.Ytckmncebedhgeaa.Pure
