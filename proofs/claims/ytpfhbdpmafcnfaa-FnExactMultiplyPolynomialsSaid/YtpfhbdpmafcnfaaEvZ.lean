/-
  Plain law: the sums of products of two lists, place by place; what is told of a list with too great a number.
-/
import Derived.Test.YtpfhbdpmafcnfaaEvT
namespace Go.Proofs.Ytpfhbdpmafcnfaa.Pure
open Go.RowKit Go.Proofs.Ytpfhbdpmafcnfaa.G Go.Proofs.YtpfhbdpmafcnfaaW.PrintWords Go.Proofs.YtpfhbdpmafcnfaaW.PrintLast
set_option linter.unusedVariables false

def tS (φ : Int → Int → Int) (a b : List Int) (i j : Nat) : Int := if i ≤ j ∧ j < i + b.length then φ (rd a (i : Nat)) (rd b ((j - i : Nat) : Int)) else 0
def TS (φ : Int → Int → Int) (a b : List Int) : Nat → Nat → Int
  | 0, _ => 0
  | i + 1, j => TS φ a b i j + tS φ a b i j
def pS (φ : Int → Int → Int) (a b : List Int) (i k j : Nat) : Int := TS φ a b i j + (if i ≤ j ∧ j < i + k then φ (rd a (i : Nat)) (rd b ((j - i : Nat) : Int)) else 0)
def vS (φ : Int → Int → Int) (a b : List Int) (len i k : Nat) : List Int := (List.range len).map (pS φ a b i k)
theorem vS_length (φ : Int → Int → Int) (a b : List Int) (len i k : Nat) : (vS φ a b len i k).length = len := by simp [vS]
theorem vS_rd {φ : Int → Int → Int} {a b : List Int} {len i k j : Nat} (h : j < len) : rd (vS φ a b len i k) (j : Nat) = pS φ a b i k j := by
  rw [rd_at (by rw [vS_length]; exact h)]
  simp [vS]
theorem vS_start (φ : Int → Int → Int) (a b : List Int) (len : Nat) : vS φ a b len 0 0 = List.replicate len 0 := by
  apply List.ext_getElem
  · simp [vS]
  · intro j h1 h2
    simp [vS, pS, TS]
theorem pS_next (φ : Int → Int → Int) (a b : List Int) (i j : Nat) : pS φ a b i b.length j = pS φ a b (i + 1) 0 j := by
  have e : ¬ (i + 1 ≤ j ∧ j < i + 1 + 0) := by omega
  unfold pS
  rw [if_neg e]
  show TS φ a b i j + tS φ a b i j = (TS φ a b i j + tS φ a b i j) + 0
  omega
theorem vS_next (φ : Int → Int → Int) (a b : List Int) (len i : Nat) : vS φ a b len i b.length = vS φ a b len (i + 1) 0 := by
  unfold vS
  exact List.map_congr_left fun j _ => pS_next φ a b i j
theorem pS_at (φ : Int → Int → Int) (a b : List Int) (i k : Nat) : pS φ a b i (k + 1) (i + k) = pS φ a b i k (i + k) + φ (rd a (i : Nat)) (rd b (k : Nat)) := by
  unfold pS
  rw [if_pos (by omega), if_neg (by omega), show i + k - i = k by omega]
  omega
theorem vS_set {φ : Int → Int → Int} {a b : List Int} {len i k : Nat} (h : i + k < len) : (vS φ a b len i k).set (i + k) (pS φ a b i k (i + k) + φ (rd a (i : Nat)) (rd b (k : Nat))) = vS φ a b len i (k + 1) := by
  apply List.ext_getElem
  · simp [vS]
  · intro j h1 h2
    rw [List.getElem_set]
    by_cases e : i + k = j
    · subst e
      rw [if_pos rfl]
      simp only [vS, List.getElem_map, List.getElem_range]
      exact (pS_at φ a b i k).symm
    · rw [if_neg e]
      simp only [vS, List.getElem_map, List.getElem_range]
      unfold pS
      by_cases c : i ≤ j ∧ j < i + k
      · rw [if_pos c, if_pos (by omega)]
      · rw [if_neg c, if_neg (by omega)]
/-- Numbers of the lists are small, so are those of φ. -/
def Small (φ : Int → Int → Int) (a b : List Int) (B : Int) : Prop := 0 ≤ B ∧ ∀ i k : Nat, i < a.length → k < b.length → -B ≤ φ (rd a (i : Nat)) (rd b (k : Nat)) ∧ φ (rd a (i : Nat)) (rd b (k : Nat)) ≤ B
theorem tS_le {φ : Int → Int → Int} {a b : List Int} {B : Int} (h : Small φ a b B) {i j : Nat} (hi : i < a.length) : -B ≤ tS φ a b i j ∧ tS φ a b i j ≤ B := by
  unfold tS
  by_cases c : i ≤ j ∧ j < i + b.length
  · rw [if_pos c]; exact h.2 i (j - i) hi (by omega)
  · rw [if_neg c]; have := h.1; omega
theorem TS_le {φ : Int → Int → Int} {a b : List Int} {B : Int} (h : Small φ a b B) : ∀ i j : Nat, i ≤ a.length → -((i : Int) * B) ≤ TS φ a b i j ∧ TS φ a b i j ≤ (i : Int) * B
  | 0, j, _ => by simp [TS]
  | i + 1, j, hi => by
    have h1 := TS_le h i j (by omega)
    have h2 := tS_le h (i := i) (j := j) (by omega)
    have e : ((i + 1 : Nat) : Int) * B = (i : Int) * B + B := by rw [Int.natCast_add, Int.add_mul]; simp
    rw [e]
    unfold TS
    generalize (i : Int) * B = c at *
    omega
theorem pS_le {φ : Int → Int → Int} {a b : List Int} {B : Int} (h : Small φ a b B) {i k j : Nat} (hi : i < a.length) (hk : k ≤ b.length) (hl : a.length ≤ 41) : -(41 * B) ≤ pS φ a b i k j ∧ pS φ a b i k j ≤ 41 * B := by
  have h1 := TS_le h i j (by omega)
  have h0 := h.1
  have h2 : (i : Int) * B ≤ 40 * B := Int.mul_le_mul_of_nonneg_right (by omega) h0
  have h3 : -B ≤ (if i ≤ j ∧ j < i + k then φ (rd a (i : Nat)) (rd b ((j - i : Nat) : Int)) else 0) ∧ (if i ≤ j ∧ j < i + k then φ (rd a (i : Nat)) (rd b ((j - i : Nat) : Int)) else 0) ≤ B := by
    by_cases c : i ≤ j ∧ j < i + k
    · rw [if_pos c]; exact h.2 i (j - i) hi (by omega)
    · rw [if_neg c]; omega
  unfold pS
  generalize (i : Int) * B = c at *
  omega
theorem TS_all {φ : Int → Int → Int} {a b : List Int} {B : Int} (h : Small φ a b B) (hl : a.length ≤ 41) (j : Nat) : -(41 * B) ≤ TS φ a b a.length j ∧ TS φ a b a.length j ≤ 41 * B := by
  have h1 := TS_le h a.length j (Nat.le_refl _)
  have h2 : ((a.length : Nat) : Int) * B ≤ 41 * B := Int.mul_le_mul_of_nonneg_right (by omega) h.1
  generalize ((a.length : Nat) : Int) * B = c at *
  omega
theorem TS_lin {φ ψ χ : Int → Int → Int} {c : Int} (h : ∀ x y, χ x y = φ x y * c + ψ x y) (a b : List Int) : ∀ i j : Nat, TS χ a b i j = TS φ a b i j * c + TS ψ a b i j
  | 0, j => by simp [TS]
  | i + 1, j => by
    have ih := TS_lin h a b i j
    have e : tS χ a b i j = tS φ a b i j * c + tS ψ a b i j := by
      unfold tS
      split
      · exact h _ _
      · simp
    unfold TS
    rw [ih, e, Int.add_mul]
    omega
/-- A place beyond all sums. -/
theorem TS_none (φ : Int → Int → Int) (a b : List Int) : ∀ i j : Nat, i + b.length ≤ j + 1 → (∀ i', i' < i → i' + b.length ≤ j) → TS φ a b i j = 0
  | 0, _, _, _ => rfl
  | i + 1, j, h1, h2 => by
    unfold TS
    rw [TS_none φ a b i j (by omega) (fun i' h => h2 i' (by omega))]
    have := h2 i (by omega)
    unfold tS
    rw [if_neg (by omega)]
    rfl
theorem trimN_mem {l : List Int} {x : Int} (hx : x ≠ 0) : ∀ n, n ≤ l.length → x ∈ l.take n → x ∈ trimN l n
  | 0, _, h => by simp at h
  | n + 1, hn, h => by
    unfold trimN
    by_cases e : rd l n = 0
    · rw [if_pos e]
      rw [List.take_succ_eq_append_getElem (by omega), List.mem_append] at h
      rcases h with h | h
      · exact trimN_mem hx n (by omega) h
      · rw [rd_at (by omega)] at e
        have : x = l[n] := by simpa using h
        exact absurd (this.trans e) hx
    · rw [if_neg e]; exact h
/-- A list with too great a number is none that is told. -/
theorem told_big {l : List Int} {x : Int} (h : x ∈ l) (hb : coefB x = false) : toldR (trimL l) = ([], 3) := by
  have hx : x ≠ 0 := by rintro rfl; revert hb; decide
  have hm : x ∈ trimL l := trimN_mem hx l.length (Nat.le_refl _) (by rw [List.take_length]; exact h)
  unfold toldR
  rw [if_neg]
  intro hp
  unfold isPolyB at hp
  rw [Bool.and_eq_true, Bool.and_eq_true] at hp
  have := List.all_eq_true.1 hp.2.1 x hm
  rw [hb] at this
  cases this
theorem trimN_take {l l' : List Int} : ∀ n, (∀ k, k < n → l[k]? = l'[k]?) → trimN l n = trimN l' n
  | 0, _ => rfl
  | n + 1, h => by
    have e : rd l (n : Nat) = rd l' (n : Nat) := by
      unfold rd
      rw [Int.toNat_natCast, List.getD_eq_getElem?_getD, List.getD_eq_getElem?_getD, h n (by omega)]
    unfold trimN
    rw [e, trimN_take n (fun k hk => h k (by omega))]
    have e2 : l.take (n + 1) = l'.take (n + 1) := by
      apply List.ext_getElem?
      intro k
      rw [List.getElem?_take, List.getElem?_take]
      by_cases c : k < n + 1
      · rw [if_pos c, if_pos c, h k c]
      · rw [if_neg c, if_neg c]
    rw [e2]
theorem trimL_zero (l : List Int) : trimL (l ++ [0]) = trimL l := by
  have e : rd (l ++ [0]) (l.length : Nat) = 0 := by
    have h : l.length < (l ++ [0]).length := by simp
    rw [rd_at h]
    simp
  have t : trimN (l ++ [0]) l.length = trimN l l.length := trimN_take (l := l ++ [0]) (l' := l) l.length (fun k hk => List.getElem?_append_left hk)
  unfold trimL
  rw [List.length_append, List.length_singleton]
  show trimN (l ++ [0]) (l.length + 1) = _
  rw [← t]
  show (if rd (l ++ [0]) (l.length : Nat) = 0 then trimN (l ++ [0]) l.length else (l ++ [0]).take (l.length + 1)) = _
  rw [if_pos e]
end Go.Proofs.Ytpfhbdpmafcnfaa.Pure
