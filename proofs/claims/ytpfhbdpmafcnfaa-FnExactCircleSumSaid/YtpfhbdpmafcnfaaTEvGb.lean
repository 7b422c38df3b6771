/-
  Plain laws of sums whose words are renamed: what the program gathers is what the reference puts, term by term; what a sum is.
-/
import Derived.Test.YtpfhbdpmafcnfaaTEvU
import Derived.Test.YtpfhbdpmafcnfaaTEvGa
import Derived.Test.YtpfhbdpmafcnfaaTGgD
namespace Go.Proofs.Ytpfhbdpmafcnfaa.Pure
open Go.RowKit Go.Proofs.Ytpfhbdpmafcnfaa.G Go.Proofs.Ytpfhbdpmafcnfaa.Plain Go.Proofs.YtpfhbdpmafcnfaaW.PrintWords Go.Proofs.YtpfhbdpmafcnfaaW.PrintLast
set_option linter.unusedVariables false
set_option linter.unusedSimpArgs false
theorem okFrom_at (p : Int) (ys : List S89) : ∀ (d k : Nat), okFrom p ys d k = true → ∀ i, k ≤ i → i < k + d → stepB p ys i = true
  | 0, k, _, i, h1, h2 => by omega
  | d + 1, k, h, i, h1, h2 => by
    unfold okFrom at h
    rw [Bool.and_eq_true] at h
    rcases Nat.eq_or_lt_of_le h1 with e | e
    · subst e; exact h.1
    · exact okFrom_at p ys d (k + 1) h.2 i e (by omega)
theorem sum_facts {p : Int} {ys : List S89} (h : sumB p ys = true) : primeB p = true ∧ ys.length ≤ 200 ∧ (∀ x ∈ ys, isWordB x.f0 = true ∧ 1 ≤ x.f1 ∧ x.f1 < p) ∧ SortedW ys := by
  unfold sumB at h
  rw [Bool.and_eq_true, Bool.and_eq_true, decide_eq_true_eq] at h
  obtain ⟨h1, h2, h3⟩ := h
  have hp := prime_pos h1
  have hw : wrap64 (p - 1) = p - 1 := wrap_of (by omega) (by omega)
  have hs := okFrom_at p ys _ _ h3
  refine ⟨h1, h2, fun x hx => ?_, ?_⟩
  · obtain ⟨i, hi, rfl⟩ := List.getElem_of_mem hx
    have h4 := hs i (by omega) (by omega)
    unfold stepB at h4
    rw [rdJ hi, Bool.and_eq_true, Bool.and_eq_true, decide_eq_true_eq, hw] at h4
    exact ⟨h4.1, h4.2.1.1, by have := h4.2.1.2; omega⟩
  · have step : ∀ i (hi : i + 1 < ys.length), befW (ys[i]'(by omega)).f0 ys[i + 1].f0 = true := by
      intro i hi
      have h4 := hs (i + 1) (by omega) (by omega)
      unfold stepB at h4
      rw [rdJ hi, Bool.and_eq_true, Bool.and_eq_true, show (((i + 1 : Nat) : Int) - 1) = (i : Int) by omega, rdJ (show i < ys.length by omega)] at h4
      have h5 := h4.2.2
      rw [Bool.or_eq_true] at h5
      rcases h5 with h5 | h5
      · simp at h5
      · exact h5
    unfold SortedW
    rw [List.pairwise_iff_getElem]
    intro i j hi hj hij
    have key : ∀ d (hd : i + d + 1 < ys.length), befW ys[i].f0 ys[i + d + 1].f0 = true := by
      intro d
      induction d with
      | zero => intro hd; exact step i hd
      | succ d ih => intro hd; exact befW_trans (ih (by omega)) (step (i + d + 1) hd)
    have e : j = i + (j - i - 1) + 1 := by omega
    have := key (j - i - 1) (by omega)
    simpa [← e] using this
def renZ (p : Int) (o : List Int → List Int) (L xs : List S89) : List S89 := xs.foldl (fun L x => putZ p L (o x.f0) x.f1) L
theorem renZ_snoc (p : Int) (o : List Int → List Int) (L xs : List S89) (x : S89) : renZ p o L (xs ++ [x]) = putZ p (renZ p o L xs) (o x.f0) x.f1 := by unfold renZ; rw [List.foldl_append]; rfl
theorem chg_ren {p : Int} (hp : 2 ≤ p) (o : List Int → List Int) : ∀ (xs L : List S89), chgZ p (fun l => oneT p (o l)) L xs = renZ p o L xs
  | [], _ => rfl
  | x :: xs, L => by
    have h := chg_ren hp o xs (putZ p L (o x.f0) x.f1)
    have e : addZ p x.f1 L (oneT p (o x.f0)) = putZ p L (o x.f0) x.f1 := by
      have e1 : oneT p (o x.f0) = [⟨o x.f0, 1⟩] := by
        unfold oneT nzT putZ
        have e2 : (1 : Int) % p = 1 := Int.emod_eq_of_lt (by omega) (by omega)
        rw [e2]
        rfl
      rw [e1]
      unfold addZ
      simp
    show chgZ p (fun l => oneT p (o l)) (addZ p x.f1 L (oneT p (o x.f0))) xs = renZ p o (putZ p L (o x.f0) x.f1) xs
    rw [e]
    exact h
structure Keeps (p : Int) (m : Nat) (L : List S89) : Prop where
  sorted : SortedW L
  words : ∀ x ∈ L, okW x.f0
  vals : ∀ x ∈ L, 0 ≤ x.f1 ∧ x.f1 < p
  len : L.length ≤ m
theorem Keeps.nil (p : Int) : Keeps p 0 [] := ⟨List.Pairwise.nil, fun x h => (List.not_mem_nil h).elim, fun x h => (List.not_mem_nil h).elim, Nat.le_refl _⟩
theorem Keeps.put {p : Int} {m : Nat} {L : List S89} (h : Keeps p m L) (hp : 0 < p) {l : List Int} (hl : okW l) (v : Int) : Keeps p (m + 1) (putZ p L l v) :=
  ⟨putZ_sorted p l v h.sorted, putZ_words h.sorted h.words hl, putZ_vals hp h.sorted h.vals, by have := putZ_length p l v L; have := h.len; omega⟩
theorem Keeps.ren {p : Int} (hp : 0 < p) {o : List Int → List Int} : ∀ {xs L : List S89} {m : Nat}, Keeps p m L → (∀ x ∈ xs, okW (o x.f0)) → Keeps p (m + xs.length) (renZ p o L xs)
  | [], _, _, h, _ => h
  | x :: xs, L, m, h, ho => by
    have h2 := Keeps.ren hp (h.put hp (ho x List.mem_cons_self) x.f1) (fun y hy => ho y (List.mem_cons_of_mem _ hy))
    rw [List.length_cons, show m + (xs.length + 1) = m + 1 + xs.length by omega]
    exact h2
def renR (p : Int) (o : List Int → List Int) (ys : List S89) : Int × List S89 × Int := if sumB p ys = true then (p, nzT (renZ p o [] ys), 0) else (0, [], 1)
theorem lim_ren {p : Int} {o : List Int → List Int} {ys : List S89} (h : sumB p ys = true) (ho : ∀ x ∈ ys, okW (o x.f0)) : limR p (nzT (chgZ p (fun l => oneT p (o l)) [] ys)) = (p, nzT (renZ p o [] ys), 0) := by
  obtain ⟨h1, h2, _, _⟩ := sum_facts h
  have hp := prime_pos h1
  have hp2 : 2 ≤ p := by
    unfold primeB at h1
    have h1 := of_decide_eq_true h1
    simp at h1
    omega
  rw [chg_ren hp2]
  have hk := (Keeps.nil p).ren hp.1 ho
  have hn := nzT_length (renZ p o [] ys)
  unfold limR
  rw [if_neg (by have := hk.len; omega)]
theorem renR_le {p : Int} {o : List Int → List Int} {ys : List S89} (ho : sumB p ys = true → ∀ x ∈ ys, okW (o x.f0)) : (renR p o ys).2.1.length ≤ 200 ∧ ∀ x ∈ (renR p o ys).2.1, x.f0.length ≤ 1048576 := by
  unfold renR
  by_cases e : sumB p ys = true
  · rw [if_pos e]
    obtain ⟨h1, h2, _, _⟩ := sum_facts e
    have hp := prime_pos h1
    have hk := (Keeps.nil p).ren hp.1 (ho e)
    have hn := nzT_length (renZ p o [] ys)
    exact ⟨by have := hk.len; simp only; omega, fun x hx => (hk.words x (nzT_sub hx)).1⟩
  · rw [if_neg e]; simp
theorem ren_cond {p : Int} {o : List Int → List Int} {ys : List S89} (h : sumB p ys = true) (ho : ∀ x ∈ ys, okW (o x.f0)) : (0 < p ∧ p ≤ 1000) ∧ ys.length ≤ 1000 ∧ (∀ x ∈ ys, okW (o x.f0) ∧ (-1000000 ≤ x.f1 ∧ x.f1 ≤ 1000000)) := by
  obtain ⟨h1, h2, h3, _⟩ := sum_facts h
  have hp := prime_pos h1
  exact ⟨⟨hp.1, by omega⟩, by omega, fun x hx => ⟨ho x hx, by have := h3 x hx; omega⟩⟩
theorem normal_ok {l : List Int} (h : l.length ≤ 50) : okW (normalL l) := ⟨by rw [normalL_length]; omega, fun x hx => by have := normalL_bound l x hx; omega⟩
theorem rot_ok {w : List Int} (h : isWordB w = true) (k : Nat) : okW (rotL w k) := by
  have := word_length h
  unfold rotL
  exact normal_ok (by rw [List.length_append, List.length_drop, List.length_take]; omega)
theorem leastFrom_ok {w : List Int} (hr : ∀ k, okW (rotL w k)) : ∀ (d k : Nat) (best : List Int), okW best → okW (leastFrom w d k best)
  | 0, _, _, h => h
  | d + 1, k, best, h => by
    unfold leastFrom
    split
    · exact leastFrom_ok hr d (k + 1) _ (hr k)
    · exact leastFrom_ok hr d (k + 1) _ h
theorem least_ok {w : List Int} (h : isWordB w = true) : okW (leastL w) := leastFrom_ok (rot_ok h) _ _ _ (word_ok h)
end Go.Proofs.Ytpfhbdpmafcnfaa.Pure
