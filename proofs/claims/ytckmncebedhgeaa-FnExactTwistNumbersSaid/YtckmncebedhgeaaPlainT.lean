/-
  Plain lemmas on circles with twisted chords: the ring of points, the bands. No program in sight.
-/
import Derived.Test.YtckmncebedhgeaaPlainC2
import Derived.Test.YtckmncebedhgeaaPlainB
namespace Go.Proofs.Ytckmncebedhgeaa.Plain
open Go.RowKit Go.Maps Go.Proofs.YtckmncebedhgeaaW.PrintWords Go.Proofs.YtckmncebedhgeaaW.PrintLast Go.Proofs.YtckmncebedhgeaaW.PrintMore
set_option linter.unusedVariables false
set_option linter.unusedSimpArgs false
/-- A list of numbers, each a place of it. -/
def Places (m : Nat) (L : List Int) : Prop := L.length = m ∧ ∀ x ∈ L, 0 ≤ x ∧ x < (m : Int)
theorem Places.set {m : Nat} {L : List Int} (h : Places m L) (i v : Nat) (hv : v < m) : Places m (L.set i (v : Int)) := by
  refine ⟨by rw [List.length_set]; exact h.1, fun x hx => ?_⟩
  rcases List.mem_or_eq_of_mem_set hx with hx | rfl
  · exact h.2 x hx
  · omega
theorem Places.zeros {m : Nat} : Places m (List.replicate m (0 : Int)) := ⟨by simp, fun x hx => by
  have := List.mem_replicate.1 hx
  omega⟩
theorem Places.at_ {m : Nat} {L : List Int} (h : Places m L) {i : Nat} (hi : i < m) : ∃ v : Nat, rd L (i : Int) = (v : Int) ∧ v < m ∧ (L.getD i 0).toNat = v := by
  have hl : i < L.length := by have := h.1; omega
  have e : rd L (i : Int) = L[i] := by unfold rd; rw [Int.toNat_natCast, List.getD_eq_getElem?_getD, List.getElem?_eq_getElem hl]; rfl
  have e2 : L.getD i 0 = L[i] := by rw [List.getD_eq_getElem?_getD, List.getElem?_eq_getElem hl]; rfl
  have h2 := h.2 _ (List.getElem_mem hl)
  exact ⟨L[i].toNat, by rw [e]; omega, by omega, by rw [e2]⟩
def ringS (m : Nat) (r : List Int) (t : Nat) : List Int := (r.set (2 * t + 1) (((2 * t + 2) % m : Nat) : Int)).set ((2 * t + 2) % m) ((2 * t + 1 : Nat) : Int)
def ringF (m : Nat) : Nat → Nat → List Int → List Int
  | 0, _, r => r
  | d + 1, t, r => ringF m d (t + 1) (ringS m r t)
def endA (q : Int → Bool) (i : Nat) (c : Nat) : Nat := if q i = true then 2 * c else 2 * c + 1
def endB (q : Int → Bool) (i : Nat) (c : Nat) : Nat := if q i = true then 2 * c + 1 else 2 * c
def bandS (l : List Int) (q : Int → Bool) (b : List Int) (i : Nat) : List Int :=
  (((b.set (2 * fstP l i) (endA q i (sndP l i) : Nat)).set (endA q i (sndP l i)) (2 * fstP l i : Nat)).set (2 * fstP l i + 1) (endB q i (sndP l i) : Nat)).set (endB q i (sndP l i)) (2 * fstP l i + 1 : Nat)
def bandF (l : List Int) (q : Int → Bool) : Nat → Nat → List Int → List Int
  | 0, _, b => b
  | d + 1, i, b => bandF l q d (i + 1) (bandS l q b i)
theorem ringS_ok {m t : Nat} {r : List Int} (h : Places m r) (ht : 2 * t + 1 < m) : Places m (ringS m r t) := (h.set _ _ (Nat.mod_lt _ (by omega))).set _ _ ht
theorem ringF_ok {m : Nat} : ∀ (d t : Nat) (r : List Int), Places m r → 2 * (t + d) ≤ m → Places m (ringF m d t r)
  | 0, _, _, h, _ => h
  | d + 1, t, r, h, hm => ringF_ok d (t + 1) _ (ringS_ok h (by omega)) (by omega)
theorem bandS_ok {l : List Int} {q : Int → Bool} {b : List Int} {i : Nat} (h : Places (2 * l.length) b) (h1 : fstP l i < l.length) (h2 : sndP l i < l.length) : Places (2 * l.length) (bandS l q b i) := by
  have e1 : endA q i (sndP l i) < 2 * l.length := by unfold endA; split <;> omega
  have e2 : endB q i (sndP l i) < 2 * l.length := by unfold endB; split <;> omega
  exact (((h.set _ _ e1).set _ _ (by omega)).set _ _ e2).set _ _ (by omega)
/-- The two roads from a point: along its band, and from there along the ring. -/
def bandAt (b : List Int) (x : Nat) : Nat := (b.getD x 0).toNat
def roadAt (b r : List Int) (x : Nat) : Nat := (r.getD (bandAt b x) 0).toNat
def circB (l : List Int) (q : Int → Bool) : List Int := bandF l q (l.length / 2) 0 (List.replicate (2 * l.length) 0)
def circR (l : List Int) : List Int := ringF (2 * l.length) l.length 0 (List.replicate (2 * l.length) 0)
/-- How many border circles there are, at least one. -/
def circN (l : List Int) (q : Int → Bool) : Nat := cycB (bandAt (circB l q)) (roadAt (circB l q) (circR l)) (2 * l.length) 0 (List.replicate (2 * l.length) false) 0
theorem bandF_congr {l : List Int} {q q' : Int → Bool} : ∀ (d i : Nat) (b : List Int), (∀ j : Nat, j < i + d → q j = q' j) → bandF l q d i b = bandF l q' d i b
  | 0, _, _, _ => rfl
  | d + 1, i, b, h => by
    unfold bandF
    have e : bandS l q b i = bandS l q' b i := by
      unfold bandS endA endB
      rw [h i (by omega)]
    rw [e]
    exact bandF_congr d (i + 1) _ (fun j hj => h j (by omega))
theorem circN_congr {l : List Int} {q q' : Int → Bool} (h : ∀ j : Nat, j < l.length / 2 → q j = q' j) : circN l q = circN l q' := by
  unfold circN circB
  rw [bandF_congr _ _ _ (fun j hj => h j (by omega))]
end Go.Proofs.Ytckmncebedhgeaa.Plain
