/-
  Plain lemmas on tests that are handed to a library function. No program in sight.
-/
import Derived.Test.YtflpdjmdkdgijaaPlainA
namespace Go.Proofs.Ytflpdjmdkdgijaa.Plain
open Go.RowKit Go.Maps Go.Proofs.YtflpdjmdkdgijaaW.PrintWords Go.Proofs.YtflpdjmdkdgijaaW.PrintLast Go.Proofs.YtflpdjmdkdgijaaW.PrintMore
set_option linter.unusedVariables false
set_option linter.unusedSimpArgs false
/-- The first place from j on at which a test holds. -/
def idxF (p : Int → Bool) : List Int → Nat → Int
  | [], _ => -1
  | x :: l, j => if p x = true then (j : Int) else idxF p l (j + 1)
theorem idxF_drop (p : Int → Bool) (l : List Int) (j : Nat) (h : j < l.length) : idxF p (l.drop j) j = if p (rd l j) = true then (j : Int) else idxF p (l.drop (j + 1)) (j + 1) := by
  rw [List.drop_eq_getElem_cons h]
  have e : rd l (j : Int) = l[j] := by unfold rd; simp [h]
  rw [e]; rfl
/-- How many of d numbers from j on pass a test with i. -/
def inF (p : Int → Int → Bool) (i : Nat) : Nat → Nat → Nat
  | 0, _ => 0
  | d + 1, j => (if p j i = true then 1 else 0) + inF p i d (j + 1)
/-- How many pairs below. -/
def outF (p : Int → Int → Bool) : Nat → Nat → Nat
  | 0, _ => 0
  | d + 1, i => inF p i i 0 + outF p d (i + 1)
theorem inF_le (p : Int → Int → Bool) (i : Nat) : ∀ d j : Nat, inF p i d j ≤ d
  | 0, _ => Nat.le_refl _
  | d + 1, j => by
    have := inF_le p i d (j + 1)
    unfold inF
    split <;> omega
theorem outF_le (p : Int → Int → Bool) (m : Nat) : ∀ d i : Nat, i + d ≤ m → outF p d i ≤ d * m
  | 0, _, _ => Nat.zero_le _
  | d + 1, i, h => by
    have h1 := outF_le p m d (i + 1) (by omega)
    have h2 := inF_le p i i 0
    unfold outF
    rw [Nat.succ_mul]
    omega
theorem outF_small (p : Int → Int → Bool) (m : Nat) (h : m ≤ 524288) : outF p m 0 ≤ 274877906944 := by
  have h1 := outF_le p m m 0 (by omega)
  have h2 : m * m ≤ 524288 * 524288 := Nat.mul_le_mul h h
  omega
theorem inF_congr {p q : Int → Int → Bool} {i : Nat} : ∀ d j : Nat, (∀ x : Nat, j ≤ x → x < j + d → p x i = q x i) → inF p i d j = inF q i d j
  | 0, _, _ => rfl
  | d + 1, j, h => by
    unfold inF
    rw [h j (Nat.le_refl _) (by omega), inF_congr d (j + 1) (fun x h1 h2 => h x (by omega) (by omega))]
theorem outF_congr {p q : Int → Int → Bool} : ∀ d i : Nat, (∀ x y : Nat, x < y → y < i + d → p x y = q x y) → outF p d i = outF q d i
  | 0, _, _ => rfl
  | d + 1, i, h => by
    unfold outF
    rw [inF_congr i 0 (fun x _ h2 => h x i (by omega) (by omega)), outF_congr d (i + 1) (fun x y h1 h2 => h x y h1 (by omega))]
/-- Does a test answer at all pairs below? -/
def okP (q : Int → Int → Option Bool) (N : Nat) : Bool := (List.range N).all fun i => (List.range i).all fun j => (q j i).isSome
def valP (q : Int → Int → Option Bool) (j i : Int) : Bool := (q j i).getD false
theorem okP_at {q : Int → Int → Option Bool} {N : Nat} (h : okP q N = true) {j i : Nat} (hj : j < i) (hi : i < N) : q j i = some (valP q j i) := by
  have h1 := List.all_eq_true.1 h i (List.mem_range.2 hi)
  have h2 := List.all_eq_true.1 h1 j (List.mem_range.2 hj)
  unfold valP
  cases hx : q j i with
  | none => rw [hx] at h2; simp at h2
  | some v => rfl
theorem okP_mono {q q' : Int → Int → Option Bool} {N : Nat} (h : okP q N = true) (hm : ∀ j i, LeO (q j i) (q' j i)) : okP q' N = true ∧ outF (valP q) N 0 = outF (valP q') N 0 := by
  have h1 : ∀ x y : Nat, x < y → y < N → q' x y = some (valP q x y) := fun x y hx hy => hm _ _ _ (okP_at h hx hy)
  refine ⟨?_, ?_⟩
  · refine List.all_eq_true.2 fun i hi => List.all_eq_true.2 fun j hj => ?_
    rw [h1 j i (List.mem_range.1 hj) (List.mem_range.1 hi)]; rfl
  · refine outF_congr _ _ fun x y hx hy => ?_
    show _ = (q' x y).getD false
    rw [h1 x y hx (by omega)]; rfl
end Go.Proofs.Ytflpdjmdkdgijaa.Plain
