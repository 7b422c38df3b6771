/-
  Plain laws of border circles with twisted chords: the program's circles and the reference's. No condition but sizes.
-/
import Derived.Test.YtckmncebedhgeaaEvP
import Derived.Test.YtckmncebedhgeaaPlainX
import Derived.Test.YtckmncebedhgeaaPlainT
import Derived.Test.YtckmncebedhgeaaG111
import Derived.Test.YtckmncebedhgeaaG109
namespace Go.Proofs.Ytckmncebedhgeaa.Pure
open Go.RowKit Go.Proofs.Ytckmncebedhgeaa.G Go.Proofs.Ytckmncebedhgeaa.Plain Go.Proofs.YtckmncebedhgeaaW.PrintWords Go.Proofs.YtckmncebedhgeaaW.PrintLast

def ringOk : Bool := (List.range 13).all fun n => (List.range (2 * n)).all fun v => (ringF (2 * n) n 0 (List.replicate (2 * n) 0)).getD v 0 == (if v % 2 = 1 then (((v + 1) % (2 * n) : Nat) : Int) else (((v + 2 * n - 1) % (2 * n) : Nat) : Int))
theorem ringOk_true : ringOk = true := by decide +kernel
theorem ring_at {n v : Nat} (hn : n ≤ 12) (hv : v < 2 * n) : (ringF (2 * n) n 0 (List.replicate (2 * n) 0)).getD v 0 = (if v % 2 = 1 then (((v + 1) % (2 * n) : Nat) : Int) else (((v + 2 * n - 1) % (2 * n) : Nat) : Int)) := by
  have h1 := List.all_eq_true.1 ringOk_true n (List.mem_range.2 (by omega))
  have h2 := List.all_eq_true.1 h1 v (List.mem_range.2 hv)
  exact beq_iff_eq.1 h2
theorem word_two {w : List Int} (h : isWordB w = true) {i : Nat} (hi : i < w.length / 2) : w.count (i : Int) = 2 := word_count h (by omega) (by omega)
theorem bandF_ok {w : List Int} (h : isWordB w = true) (q : Int → Bool) : ∀ (d i : Nat) (b : List Int), i + d = w.length / 2 → Places (2 * w.length) b → Places (2 * w.length) (bandF w q d i b)
  | 0, _, _, _, hb => hb
  | d + 1, i, b, hi, hb => by
    have hp := sndP_lt (word_two h (show i < w.length / 2 by omega))
    exact bandF_ok h q d (i + 1) _ (by omega) (bandS_ok hb (by omega) hp.2)
theorem rounds_all {p : Nat → Nat → Prop} : ∀ n : Nat, (∀ i, i < n → ∃ K, ∀ k, K ≤ k → p k i) → ∃ K, ∀ k, K ≤ k → ∀ i, i < n → p k i
  | 0, _ => ⟨0, fun _ _ i hi => absurd hi (Nat.not_lt_zero i)⟩
  | n + 1, h => by
    obtain ⟨K, hK⟩ := rounds_all n (fun i hi => h i (by omega))
    obtain ⟨K2, hK2⟩ := h n (by omega)
    refine ⟨max K K2, fun k hk i hi => ?_⟩
    by_cases e : i = n
    · subst e; exact hK2 k (by omega)
    · exact hK k (by omega) i (by omega)
theorem ev_impl_circles (w : List Int) (h : isWordB w = true) (p : Nat → Int → Option Bool) (q : Int → Bool) (hp : ∀ i : Nat, i < w.length / 2 → Ev (fun n => p n i) (q i)) : Ev (fun n => impl_circles.f (p n) n w) ((max (circN w q) 1 : Nat) : Int) := by
  have hlen := word_length h
  obtain ⟨K, hK⟩ := rounds_all (p := fun k i => impl_places.f k w (i : Int) = some ((fstP w (i : Int) : Int), (sndP w (i : Int) : Int)) ∧ p k (i : Int) = some (q i)) (w.length / 2) (fun i hi => by
    obtain ⟨K1, h1⟩ := ev_impl_places w (i : Int) (by omega) (word_two h hi)
    obtain ⟨K2, h2⟩ := hp i hi
    exact ⟨max K1 K2, fun k hk => ⟨h1 k (by omega), h2 k (by omega)⟩⟩)
  refine ⟨K, fun k hk => ?_⟩
  have hok : impl_circles.ok (p k) k w = true := by
    unfold impl_circles.ok
    rw [Bool.and_eq_true]
    refine ⟨decide_eq_true hlen, List.all_eq_true.2 fun i hi => ?_⟩
    obtain ⟨h1, h2⟩ := hK k hk i (List.mem_range.1 hi)
    have hs := sndP_lt (word_two h (List.mem_range.1 hi))
    unfold impl_circles.okAt
    simp only [Bool.and_eq_true, decide_eq_true_eq]
    exact ⟨h1, by rw [h2]; rfl, by omega, hs.2⟩
  show (if impl_circles.ok (p k) k w = true then _ else _) = _
  rw [if_pos hok]
  have e : circN w (valQ (p k)) = circN w q := circN_congr fun j hj => by
    obtain ⟨_, h2⟩ := hK k hk j hj
    unfold valQ
    rw [h2]; rfl
  rw [e]
theorem flag_at (s : List Bool) (k : Nat) (hk : k < s.length) : rdOf false s (k : Int) = s.getD k true := by
  unfold rdOf
  rw [Int.toNat_natCast, List.getD_eq_getElem?_getD, List.getD_eq_getElem?_getD, List.getElem?_eq_getElem hk]
  rfl
section
variable {w : List Int} (h : isWordB w = true) {B : List Int} (hB : Places (2 * w.length) B)
include h hB
theorem twist_inner (m : Int) (i : Nat) (hi : i < 2 * w.length) (r : Int) : ∀ (d : Nat) (s : List Bool) (k : Nat), s.count false < d → k < 2 * w.length → s.length = 2 * w.length →
    Ev (fun n => spec_l05Circles.l1 n (w.length : Int) B (walkB (bandAt B) (roadAt B (circR w)) d s k) m ((i : Int) + 1)) r → Ev (fun n => spec_l05Circles.l2 n (w.length : Int) B s m i k) r := by
  have hl := word_length h
  intro d
  induction d with
  | zero => intro s k hs; omega
  | succ d ih =>
    intro s k hs hk hsl hr
    refine Ev.step (fun n => by rw [spec_l05Circles.l2]) ?_
    refine Ev.ite_pos (by omega) (Ev.ite_pos (by omega) ?_)
    rw [flag_at s k (by omega)]
    unfold walkB at hr
    by_cases e : s.getD k true = true
    · rw [if_pos e] at hr
      refine Ev.ite_pos e ?_
      rw [wrap_of (by omega) (by omega)]
      exact hr
    · rw [if_neg e] at hr
      obtain ⟨v, hv1, hv2, hv3⟩ := hB.at_ hk
      have hBl := hB.1
      have e1 : bandAt B k = v := hv3
      have e2 : roadAt B (circR w) k = if v % 2 = 1 then (v + 1) % (2 * w.length) else (v + 2 * w.length - 1) % (2 * w.length) := by
        unfold roadAt circR
        rw [e1, ring_at hl hv2]
        split <;> rw [Int.toNat_natCast]
      have e3 : roadAt B (circR w) k < 2 * w.length := by rw [e2]; split <;> exact Nat.mod_lt _ (by omega)
      have hc := count_sets_lt s k v (by simpa using e)
      rw [e1] at hr
      have hn := ih ((s.set k true).set v true) (roadAt B (circR w) k) (by omega) e3 (by simp [hsl]) hr
      refine Ev.ite_neg e (Ev.ite_pos (by omega) ?_)
      rw [hv1]
      refine Ev.ite_pos (by omega) (Ev.ite_pos (by omega) (Ev.bind (Ev.now _) ?_))
      rw [Int.toNat_natCast, Int.toNat_natCast, wrap_of (x := 2 * (w.length : Int)) (by omega) (by omega)]
      have t2 : Int.tmod (v : Int) 2 = ((v % 2 : Nat) : Int) := by rw [Int.tmod_eq_emod_of_nonneg (by omega)]; simp
      rw [t2]
      by_cases c : v % 2 = 1
      · refine Ev.ite_pos (by omega) (Ev.ite_neg (by omega) ?_)
        rw [wrap_of (x := (v : Int) + 1) (by omega) (by omega)]
        have t3 : Int.tmod ((v : Int) + 1) (2 * (w.length : Int)) = ((roadAt B (circR w) k : Nat) : Int) := by
          rw [e2, if_pos c, Int.tmod_eq_emod_of_nonneg (by omega)]; simp
        rw [t3]
        exact hn
      · refine Ev.ite_neg (by omega) (Ev.ite_neg (by omega) ?_)
        rw [wrap_of (x := (v : Int) + 2 * (w.length : Int)) (by omega) (by omega), wrap_of (x := (v : Int) + 2 * (w.length : Int) - 1) (by omega) (by omega)]
        have t3 : Int.tmod ((v : Int) + 2 * (w.length : Int) - 1) (2 * (w.length : Int)) = ((roadAt B (circR w) k : Nat) : Int) := by
          rw [e2, if_neg c, Int.tmod_eq_emod_of_nonneg (by omega)]
          have e5 : (v : Int) + 2 * (w.length : Int) - 1 = ((v + 2 * w.length - 1 : Nat) : Int) := by omega
          rw [e5]; simp
        rw [t3]
        exact hn
theorem twist_loop : ∀ (d i : Nat) (s : List Bool) (m : Nat), i + d = 2 * w.length → s.length = 2 * w.length → m ≤ i →
    Ev (fun n => spec_l05Circles.l1 n (w.length : Int) B s (m : Int) i) ((cycB (bandAt B) (roadAt B (circR w)) d i s m : Nat) : Int) := by
  have hl := word_length h
  intro d
  induction d with
  | zero =>
    intro i s m hi hs hm
    refine Ev.step (fun n => by rw [spec_l05Circles.l1]) ?_
    rw [wrap_of (x := 2 * (w.length : Int)) (by omega) (by omega)]
    exact Ev.ite_neg (by omega) (Ev.now _)
  | succ d ih =>
    intro i s m hi hs hm
    refine Ev.step (fun n => by rw [spec_l05Circles.l1]) ?_
    rw [wrap_of (x := 2 * (w.length : Int)) (by omega) (by omega)]
    refine Ev.ite_pos (by omega) (Ev.ite_pos (by omega) (Ev.ite_pos (by omega) ?_))
    rw [flag_at s i (by omega), cycB]
    by_cases e : s.getD i true = true
    · rw [if_pos e]
      refine Ev.ite_pos e ?_
      rw [wrap_of (by omega) (by omega)]
      exact ih (i + 1) s m (by omega) hs (by omega)
    · rw [if_neg e]
      refine Ev.ite_neg e ?_
      rw [wrap_of (by omega) (by omega)]
      refine twist_inner h hB _ i (by omega) _ (s.count false + 1) s i (by omega) (by omega) hs ?_
      exact ih (i + 1) _ (m + 1) (by omega) (by rw [walkB_length]; exact hs) (by omega)
end
theorem twist_bands {w : List Int} (h : isWordB w = true) (tw : List Bool) (ht : tw.length = w.length / 2) (q : Int → Bool) (hq : ∀ i : Nat, i < w.length / 2 → tw.getD i true = q i) (r : Int) : ∀ (d i : Nat) (b : List Int), i + d = w.length / 2 → Places (2 * w.length) b →
    Ev (fun n => spec_l05Circles.l1 n (w.length : Int) (bandF w q d i b) (List.replicate (2 * w.length) false) 0 0) r → Ev (fun n => spec_l05Circles.l0 n w tw (w.length : Int) b i) r := by
  have hl := word_length h
  have hhalf : wrap64 (Int.tdiv (w.length : Int) 2) = ((w.length / 2 : Nat) : Int) := by
    rw [Int.tdiv_eq_ediv_of_nonneg (by omega), wrap_of (by omega) (by omega)]; omega
  intro d
  induction d with
  | zero =>
    intro i b hi hb hr
    refine Ev.step (fun n => by rw [spec_l05Circles.l0]) ?_
    rw [hhalf, wrap_of (x := 2 * (w.length : Int)) (by omega) (by omega)]
    have e : (2 * (w.length : Int)).toNat = 2 * w.length := by omega
    refine Ev.ite_neg (by omega) (Ev.ite_pos (by omega) (Ev.ite_pos (by omega) ?_))
    rw [e]
    exact hr
  | succ d ih =>
    intro i b hi hb hr
    have hc := word_two h (show i < w.length / 2 by omega)
    have hp := sndP_lt hc
    have hbl := hb.1
    have hok := bandS_ok (q := q) (i := i) hb (by omega) hp.2
    have hn := ih (i + 1) _ (by omega) hok hr
    refine Ev.step (fun n => by rw [spec_l05Circles.l0]) ?_
    rw [hhalf]
    refine Ev.ite_pos (by omega) (Ev.bind (ev_spec_l01Places w (i : Int) (by omega) hc) (Ev.ite_pos (by omega) (Ev.ite_pos (by omega) ?_)))
    rw [flag_at tw i (by omega), hq i (by omega), wrap_of (x := (i : Int) + 1) (by omega) (by omega)]
    unfold bandS endA endB at hn
    obtain ⟨a, ha⟩ : ∃ a, fstP w (i : Int) = a := ⟨_, rfl⟩
    obtain ⟨c, hcc⟩ : ∃ c, sndP w (i : Int) = c := ⟨_, rfl⟩
    rw [ha, hcc] at hn hp
    dsimp only
    rw [ha, hcc]
    have w1 : wrap64 (2 * (a : Int)) = ((2 * a : Nat) : Int) := by rw [wrap_of (by omega) (by omega)]; omega
    have w2 : wrap64 (2 * (c : Int)) = ((2 * c : Nat) : Int) := by rw [wrap_of (by omega) (by omega)]; omega
    have w3 : wrap64 (((2 * a : Nat) : Int) + 1) = ((2 * a + 1 : Nat) : Int) := by rw [wrap_of (by omega) (by omega)]; omega
    have w4 : wrap64 (((2 * c : Nat) : Int) + 1) = ((2 * c + 1 : Nat) : Int) := by rw [wrap_of (by omega) (by omega)]; omega
    rw [w1, w2, w3, w4]
    simp only [Int.toNat_natCast]
    by_cases e : q (i : Int) = true
    · simp only [if_pos e] at hn
      refine Ev.ite_pos e ?_
      exact Ev.ite_pos (by omega) (Ev.ite_pos (by omega) (Ev.ite_pos (by omega) (Ev.ite_pos (by omega) (Ev.ite_pos (by omega) (Ev.ite_pos (by omega) (Ev.ite_pos (by omega) (Ev.ite_pos (by omega) hn)))))))
    · simp only [if_neg e] at hn
      refine Ev.ite_neg e ?_
      exact Ev.ite_pos (by omega) (Ev.ite_pos (by omega) (Ev.ite_pos (by omega) (Ev.ite_pos (by omega) (Ev.ite_pos (by omega) (Ev.ite_pos (by omega) (Ev.ite_pos (by omega) (Ev.ite_pos (by omega) hn)))))))
theorem cycB_geC (al nx : Nat → Nat) : ∀ (d i : Nat) (s : List Bool) (m : Nat), m ≤ cycB al nx d i s m
  | 0, _, _, _ => Nat.le_refl _
  | d + 1, i, s, m => by
    unfold cycB
    split
    · exact cycB_geC al nx d _ _ _
    · exact Nat.le_trans (Nat.le_succ m) (cycB_geC al nx d _ _ _)
theorem circN_pos {w : List Int} (hn : 0 < w.length) (q : Int → Bool) : 1 ≤ circN w q := by
  unfold circN
  obtain ⟨d, hd⟩ : ∃ d, 2 * w.length = d + 1 := ⟨2 * w.length - 1, by omega⟩
  rw [hd, cycB, if_neg (by simp)]
  exact cycB_geC _ _ d _ _ _
theorem ev_spec_l05Circles (w : List Int) (h : isWordB w = true) (tw : List Bool) (ht : tw.length = w.length / 2) (q : Int → Bool) (hq : ∀ i : Nat, i < w.length / 2 → tw.getD i true = q i) :
    Ev (fun n => spec_l05Circles.f n w tw) ((max (circN w q) 1 : Nat) : Int) := by
  have hl := word_length h
  unfold spec_l05Circles.f
  by_cases e : w.length = 0
  · refine Ev.ite_pos (by omega) ?_
    have e2 : circN w q = 0 := by
      unfold circN
      rw [e]; rfl
    rw [e2]
    exact Ev.now _
  · have e1 : max (circN w q) 1 = circN w q := Nat.max_eq_left (circN_pos (by omega) q)
    rw [e1, wrap_of (x := 2 * (w.length : Int)) (by omega) (by omega)]
    have e3 : (2 * (w.length : Int)).toNat = 2 * w.length := by omega
    refine Ev.ite_neg (by omega) (Ev.ite_pos (by omega) (Ev.ite_pos (by omega) ?_))
    rw [e3]
    refine twist_bands h tw ht q hq _ (w.length / 2) 0 _ (by omega) Places.zeros ?_
    exact twist_loop h (bandF_ok h q _ _ _ (by omega) Places.zeros) (2 * w.length) 0 _ 0 (by omega) (by simp) (by omega)
theorem circN_le {w : List Int} (h : isWordB w = true) (q : Int → Bool) : circN w q ≤ 24 := by
  have hl := word_length h
  have := cycB_le (bandAt (circB w q)) (roadAt (circB w q) (circR w)) (2 * w.length) 0 (List.replicate (2 * w.length) false) 0
  unfold circN
  omega
end Go.Proofs.Ytckmncebedhgeaa.Pure
