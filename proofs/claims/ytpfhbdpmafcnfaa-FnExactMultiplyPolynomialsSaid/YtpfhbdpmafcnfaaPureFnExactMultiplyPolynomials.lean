/-
  The given law laws.FnExactMultiplyPolynomials returns true for every two lists: the program's MultiplyPolynomials answers as the reference's.
-/
import Derived.Test.YtpfhbdpmafcnfaaEvE
import Derived.Test.YtpfhbdpmafcnfaaEvZ
import Derived.Test.YtpfhbdpmafcnfaaPlainA
import Derived.Test.YtpfhbdpmafcnfaaGlMultiplyPolynomials
namespace Go.Proofs.Ytpfhbdpmafcnfaa.Pure
open Go.RowKit Go.Proofs.Ytpfhbdpmafcnfaa.G Go.Proofs.Ytpfhbdpmafcnfaa.Plain Go.Proofs.YtpfhbdpmafcnfaaW.PrintWords Go.Proofs.YtpfhbdpmafcnfaaW.PrintLast
set_option linter.unusedVariables false
set_option linter.unusedSectionVars false

def lowS (x y : Int) : Int := x * Int.tmod y 1000000
def highS (x y : Int) : Int := x * Int.tdiv y 1000000
def hiP (x y : Int) : Int := Int.tdiv (x * y) 1000000000
def loP (x y : Int) : Int := Int.tmod (x * y) 1000000000
def exS (x y : Int) : Int := x * y
theorem prod_le {x z : Int} {A C : Nat} (hx : -(A : Int) ≤ x ∧ x ≤ A) (hz : -(C : Int) ≤ z ∧ z ≤ C) : -((A * C : Nat) : Int) ≤ x * z ∧ x * z ≤ ((A * C : Nat) : Int) := by
  have h1 : x.natAbs ≤ A := by omega
  have h2 : z.natAbs ≤ C := by omega
  have h3 := Nat.mul_le_mul h1 h2
  rw [← Int.natAbs_mul] at h3
  generalize x * z = p at *
  generalize A * C = q at *
  omega
theorem poly_small {a : List Int} (h : isPolyB a = true) : a.length ≤ 41 ∧ ∀ i : Nat, i < a.length → -((1000000000 : Nat) : Int) ≤ rd a (i : Nat) ∧ rd a (i : Nat) ≤ ((1000000000 : Nat) : Int) := by
  unfold isPolyB at h
  rw [Bool.and_eq_true, Bool.and_eq_true] at h
  refine ⟨of_decide_eq_true h.1, fun i hi => ?_⟩
  have := List.all_eq_true.1 h.2.1 _ (List.getElem_mem hi)
  unfold coefB at this
  rw [rd_at hi]
  exact of_decide_eq_true this
theorem tmod_le (y : Int) : -((1000000 : Nat) : Int) ≤ Int.tmod y 1000000 ∧ Int.tmod y 1000000 ≤ ((1000000 : Nat) : Int) := by
  have h1 := Int.tmod_lt_of_pos y (b := 1000000) (by decide)
  have h2 := Int.lt_tmod_of_pos y (b := 1000000) (by decide)
  omega
theorem tdiv_le {y : Int} (h : -((1000000000 : Nat) : Int) ≤ y ∧ y ≤ ((1000000000 : Nat) : Int)) : -((1000 : Nat) : Int) ≤ Int.tdiv y 1000000 ∧ Int.tdiv y 1000000 ≤ ((1000 : Nat) : Int) := by
  have h0 := Int.mul_tdiv_add_tmod y 1000000
  have h1 := Int.tmod_lt_of_pos y (b := 1000000) (by decide)
  have h2 := Int.lt_tmod_of_pos y (b := 1000000) (by decide)
  omega
theorem tmod9_le (y : Int) : -1000000000 ≤ Int.tmod y 1000000000 ∧ Int.tmod y 1000000000 ≤ 1000000000 := by
  have h1 := Int.tmod_lt_of_pos y (b := 1000000000) (by decide)
  have h2 := Int.lt_tmod_of_pos y (b := 1000000000) (by decide)
  omega
theorem tdiv9_le {y : Int} (h : -1000000000000000000 ≤ y ∧ y ≤ 1000000000000000000) : -1000000000 ≤ Int.tdiv y 1000000000 ∧ Int.tdiv y 1000000000 ≤ 1000000000 := by
  have h0 := Int.mul_tdiv_add_tmod y 1000000000
  have h1 := Int.tmod_lt_of_pos y (b := 1000000000) (by decide)
  have h2 := Int.lt_tmod_of_pos y (b := 1000000000) (by decide)
  omega
section
variable {a b : List Int} (ha : isPolyB a = true) (hb : isPolyB b = true)
include ha hb
theorem ex_le : ∀ i k : Nat, i < a.length → k < b.length → -1000000000000000000 ≤ rd a (i : Nat) * rd b (k : Nat) ∧ rd a (i : Nat) * rd b (k : Nat) ≤ 1000000000000000000 := fun i k hi hk => by
  have := prod_le ((poly_small ha).2 i hi) ((poly_small hb).2 k hk)
  omega
theorem low_small : Small lowS a b 1000000000000000 := ⟨by decide, fun i k hi hk => by
  have := prod_le ((poly_small ha).2 i hi) (tmod_le (rd b (k : Nat)))
  unfold lowS
  omega⟩
theorem high_small : Small highS a b 1000000000000 := ⟨by decide, fun i k hi hk => by
  have := prod_le ((poly_small ha).2 i hi) (tdiv_le ((poly_small hb).2 k hk))
  unfold highS
  omega⟩
theorem hi_small : Small hiP a b 1000000000 := ⟨by decide, fun i k hi hk => tdiv9_le (ex_le ha hb i k hi hk)⟩
theorem lo_small : Small loP a b 1000000000 := ⟨by decide, fun i k hi hk => tmod9_le _⟩
theorem ms_inner (len : Nat) (hlen : len + 1 = a.length + b.length) (i : Nat) (hi : i < a.length) (r : List Int × Int)
    (H : Ev (fun n => spec_MultiplyPolynomials.l0 n a b (vS lowS a b len (i + 1) 0) (vS highS a b len (i + 1) 0) ((i + 1 : Nat) : Int)) r) :
    ∀ (d k : Nat), k ≤ b.length → b.length - k = d → Ev (fun n => spec_MultiplyPolynomials.l1 n a b (vS lowS a b len i k) (vS highS a b len i k) i k) r := by
  have sa := poly_small ha
  have sb := poly_small hb
  intro d
  induction d with
  | zero =>
    intro k hk hd
    obtain rfl : k = b.length := by omega
    rw [vS_next, vS_next]
    refine Ev.step (fun n => by rw [spec_MultiplyPolynomials.l1]) (Ev.ite_neg (by omega) ?_)
    rw [wrap_of (x := (i : Int) + 1) (by omega) (by omega)]
    exact H
  | succ d ih =>
    intro k hk hd
    have hn := ih (k + 1) (by omega) (by omega)
    have hik : i + k < len := by omega
    have e1 : wrap64 ((i : Int) + (k : Int)) = ((i + k : Nat) : Int) := by rw [wrap_of (by omega) (by omega)]; omega
    have l1 := low_small ha hb
    have h1 := high_small ha hb
    have pl := pS_le l1 (i := i) (k := k) (j := i + k) hi (by omega) sa.1
    have ph := pS_le h1 (i := i) (k := k) (j := i + k) hi (by omega) sa.1
    have q1 := l1.2 i k hi (by omega)
    have q2 := h1.2 i k hi (by omega)
    have q3 := tdiv_le (sb.2 k (by omega))
    have w1 : wrap64 (rd a (i : Nat) * Int.tmod (rd b (k : Nat)) 1000000) = lowS (rd a (i : Nat)) (rd b (k : Nat)) := wrap_of (x := lowS (rd a (i : Nat)) (rd b (k : Nat))) (by omega) (by omega)
    have w2 : wrap64 (rd a (i : Nat) * wrap64 (Int.tdiv (rd b (k : Nat)) 1000000)) = highS (rd a (i : Nat)) (rd b (k : Nat)) := by
      rw [wrap_of (x := Int.tdiv (rd b (k : Nat)) 1000000) (by omega) (by omega)]
      exact wrap_of (x := highS (rd a (i : Nat)) (rd b (k : Nat))) (by omega) (by omega)
    have ll := vS_length lowS a b len i k
    have lh := vS_length highS a b len i k
    refine Ev.step (fun n => by rw [spec_MultiplyPolynomials.l1]) ?_
    rw [e1, Int.toNat_natCast, w1, w2, vS_rd hik, vS_rd hik, wrap_of (x := pS lowS a b i k (i + k) + lowS (rd a (i : Nat)) (rd b (k : Nat))) (by omega) (by omega), wrap_of (x := pS highS a b i k (i + k) + highS (rd a (i : Nat)) (rd b (k : Nat))) (by omega) (by omega), vS_set hik, vS_set hik, wrap_of (x := (k : Int) + 1) (by omega) (by omega)]
    exact Ev.ite_pos (by omega) (Ev.ite_pos (by omega) (Ev.ite_pos (by omega) (Ev.ite_pos (by omega) (Ev.ite_pos (by omega) (Ev.ite_pos (by omega) (Ev.ite_pos (by omega) hn))))))
theorem ms_outer (len : Nat) (hlen : len + 1 = a.length + b.length) (r : List Int × Int)
    (H : Ev (fun n => spec_MultiplyPolynomials.l2 n (vS lowS a b len a.length 0) (vS highS a b len a.length 0) [] 0) r) :
    ∀ (d i : Nat), i ≤ a.length → a.length - i = d → Ev (fun n => spec_MultiplyPolynomials.l0 n a b (vS lowS a b len i 0) (vS highS a b len i 0) i) r := by
  intro d
  induction d with
  | zero =>
    intro i hi hd
    obtain rfl : i = a.length := by omega
    exact Ev.step (fun n => by rw [spec_MultiplyPolynomials.l0]) (Ev.ite_neg (by omega) H)
  | succ d ih =>
    intro i hi hd
    refine Ev.step (fun n => by rw [spec_MultiplyPolynomials.l0]) ?_
    exact (Ev.ite_pos (by omega) (ms_inner ha hb len hlen i (by omega) r (ih (i + 1) (by omega) (by omega)) b.length 0 (by omega) (by omega)))
end
theorem pS_zero (φ : Int → Int → Int) (a b : List Int) (i j : Nat) : pS φ a b i 0 j = TS φ a b i j := by
  unfold pS
  rw [if_neg (by omega)]
  omega
def sL (a b : List Int) (n : Nat) : List Int := (List.range n).map (TS exS a b a.length)
theorem sL_succ (a b : List Int) (n : Nat) : sL a b (n + 1) = sL a b n ++ [TS exS a b a.length n] := by simp [sL, List.range_succ]
theorem sL_length (a b : List Int) (n : Nat) : (sL a b n).length = n := by simp [sL]
theorem ex_low (a b : List Int) (j : Nat) : TS exS a b a.length j = TS highS a b a.length j * 1000000 + TS lowS a b a.length j := TS_lin (fun x y => by
  unfold exS highS lowS
  have h0 := Int.mul_tdiv_add_tmod y 1000000
  calc x * y = x * (1000000 * y.tdiv 1000000 + y.tmod 1000000) := by rw [h0]
    _ = x * y.tdiv 1000000 * 1000000 + x * y.tmod 1000000 := by rw [Int.mul_add, Int.mul_comm 1000000, Int.mul_assoc]) a b a.length j
theorem ex_hi (a b : List Int) (j : Nat) : TS exS a b a.length j = TS hiP a b a.length j * 1000000000 + TS loP a b a.length j := TS_lin (fun x y => by
  unfold exS hiP loP
  have h0 := Int.mul_tdiv_add_tmod (x * y) 1000000000
  omega) a b a.length j
theorem in_c (x lo hi : Int) : spec_l01In.f x lo hi = some (decide (lo ≤ x ∧ x ≤ hi)) := by
  unfold spec_l01In.f
  by_cases h : x ≥ lo
  · rw [if_pos h]
    have : lo ≤ x := h
    simp [this]
  · rw [if_neg h]
    have : ¬ lo ≤ x := h
    simp [this]
theorem ms_out {a b : List Int} (ha : isPolyB a = true) (hb : isPolyB b = true) (len : Nat) (hlen : len ≤ 100) : ∀ (d j : Nat), j ≤ len → len - j = d →
    Ev (fun n => spec_MultiplyPolynomials.l2 n (vS lowS a b len a.length 0) (vS highS a b len a.length 0) (sL a b j) j) (toldR (trimL (sL a b len))) := by
  have sa := (poly_small ha).1
  intro d
  induction d with
  | zero =>
    intro j hj hd
    obtain rfl : j = len := by omega
    have hl := sL_length a b j
    have ll := vS_length lowS a b j a.length 0
    refine Ev.step (fun n => by rw [spec_MultiplyPolynomials.l2]) (Ev.ite_neg (by omega) ?_)
    have ht := trimN_le (sL a b j) (sL a b j).length
    exact Ev.bind (ev_spec_l05Trim _ (by omega)) (Ev.bind (ev_spec_l05Told _ (by unfold trimL; omega)) (Ev.now _))
  | succ d ih =>
    intro j hj hd
    have hlt : j < len := by omega
    have hn := ih (j + 1) (by omega) (by omega)
    have hl := sL_length a b j
    have ll := vS_length lowS a b len a.length 0
    have lh := vS_length highS a b len a.length 0
    have bl := TS_all (low_small ha hb) sa j
    have bh := TS_all (high_small ha hb) sa j
    have he := ex_low a b j
    have h0 := Int.mul_tdiv_add_tmod (TS lowS a b a.length j) 1000000
    have h1 := Int.tmod_lt_of_pos (TS lowS a b a.length j) (b := 1000000) (by decide)
    have h2 := Int.lt_tmod_of_pos (TS lowS a b a.length j) (b := 1000000) (by decide)
    refine Ev.step (fun n => by rw [spec_MultiplyPolynomials.l2]) ?_
    rw [vS_rd hlt, vS_rd hlt, pS_zero, pS_zero, wrap_of (x := (j : Int) + 1) (by omega) (by omega), wrap_of (x := Int.tdiv (TS lowS a b a.length j) 1000000) (by omega) (by omega), wrap_of (x := TS highS a b a.length j + Int.tdiv (TS lowS a b a.length j) 1000000) (by omega) (by omega)]
    refine Ev.ite_pos (by omega) (Ev.ite_pos (by omega) (Ev.ite_pos (by omega) (Ev.bind (Ev.const (in_c _ _ _)) ?_)))
    rw [sL_succ] at hn
    by_cases c1 : -100000000 ≤ TS highS a b a.length j ∧ TS highS a b a.length j ≤ 100000000
    · rw [wrap_of (x := TS highS a b a.length j * 1000000) (by omega) (by omega), wrap_of (x := TS highS a b a.length j * 1000000 + TS lowS a b a.length j) (by omega) (by omega), ← he]
      exact Ev.ite_pos (decide_eq_true c1) (Ev.ite_pos (by omega) hn)
    · refine Ev.ite_neg (by rw [decide_eq_true_eq]; exact c1) (Ev.bind (Ev.const (in_c _ _ _)) ?_)
      by_cases c2 : -100000000 ≤ TS highS a b a.length j + Int.tdiv (TS lowS a b a.length j) 1000000 ∧ TS highS a b a.length j + Int.tdiv (TS lowS a b a.length j) 1000000 ≤ 100000000
      · rw [wrap_of (x := TS highS a b a.length j * 1000000) (by omega) (by omega), wrap_of (x := TS highS a b a.length j * 1000000 + TS lowS a b a.length j) (by omega) (by omega), ← he]
        exact Ev.ite_pos (decide_eq_true c2) (Ev.ite_pos (by omega) hn)
      · have hm : TS exS a b a.length j ∈ sL a b len := List.mem_map.2 ⟨j, List.mem_range.2 hlt, rfl⟩
        have hc : coefB (TS exS a b a.length j) = false := decide_eq_false (by rw [he]; omega)
        rw [told_big hm hc]
        exact Ev.ite_neg (by rw [decide_eq_true_eq]; exact c2) (Ev.now _)
theorem rd77 {l : List S77} {k : Nat} (h : k < l.length) : rd_T77 l (k : Nat) = l[k] := by
  unfold rd_T77
  rw [Int.toNat_natCast, List.getD_eq_getElem?_getD, List.getElem?_eq_getElem h]
  rfl
def p77 (a b : List Int) (i k j : Nat) : S77 := ⟨pS hiP a b i k j, pS loP a b i k j⟩
def v77 (a b : List Int) (n i k : Nat) : List S77 := (List.range n).map (p77 a b i k)
theorem v77_length (a b : List Int) (n i k : Nat) : (v77 a b n i k).length = n := by simp [v77]
theorem v77_rd {a b : List Int} {n i k j : Nat} (h : j < n) : rd_T77 (v77 a b n i k) (j : Nat) = p77 a b i k j := by
  rw [rd77 (by rw [v77_length]; exact h)]
  simp [v77]
theorem v77_start (a b : List Int) (n : Nat) : v77 a b n 0 0 = List.replicate n z77 := by
  apply List.ext_getElem
  · simp [v77]
  · intro j h1 h2
    simp [v77, p77, pS, TS, z77]
theorem v77_next (a b : List Int) (n i : Nat) : v77 a b n i b.length = v77 a b n (i + 1) 0 := by
  unfold v77
  exact List.map_congr_left fun j _ => by unfold p77; rw [pS_next, pS_next]
theorem pS_ne (φ : Int → Int → Int) (a b : List Int) {i k j : Nat} (e : j ≠ i + k) : pS φ a b i (k + 1) j = pS φ a b i k j := by
  unfold pS
  by_cases c : i ≤ j ∧ j < i + k
  · rw [if_pos c, if_pos (by omega)]
  · rw [if_neg c, if_neg (by omega)]
theorem v77_set {a b : List Int} {n i k : Nat} (h : i + k < n) : (v77 a b n i k).set (i + k) (p77 a b i (k + 1) (i + k)) = v77 a b n i (k + 1) := by
  apply List.ext_getElem
  · simp [v77]
  · intro j h1 h2
    rw [List.getElem_set]
    by_cases e : i + k = j
    · subst e
      rw [if_pos rfl]
      simp only [v77, List.getElem_map, List.getElem_range]
    · rw [if_neg e]
      simp only [v77, List.getElem_map, List.getElem_range]
      unfold p77
      rw [pS_ne hiP a b (fun h => e h.symm), pS_ne loP a b (fun h => e h.symm)]
section
variable {a b : List Int} (ha : isPolyB a = true) (hb : isPolyB b = true)
include ha hb
theorem mi_inner (n : Nat) (hn : n = a.length + b.length) (o : List Int) (i : Nat) (hi : i < a.length) (r : List Int × Int)
    (H : Ev (fun q => impl_MultiplyPolynomials.l0 q b (v77 a b n (i + 1) 0) o a (a.length : Int) ((i + 1 : Nat) : Int)) r) :
    ∀ (d k : Nat), k ≤ b.length → b.length - k = d → Ev (fun q => impl_MultiplyPolynomials.l1 q b (v77 a b n i k) o i a (a.length : Int) i b (b.length : Int) k) r := by
  have sa := poly_small ha
  have sb := poly_small hb
  intro d
  induction d with
  | zero =>
    intro k hk hd
    obtain rfl : k = b.length := by omega
    rw [v77_next]
    refine Ev.step (fun q => by rw [impl_MultiplyPolynomials.l1]) (Ev.ite_neg (by omega) ?_)
    rw [wrap_of (x := (i : Int) + 1) (by omega) (by omega)]
    exact H
  | succ d ih =>
    intro k hk hd
    have hn2 := ih (k + 1) (by omega) (by omega)
    have hik : i + k < n := by omega
    have e1 : wrap64 ((i : Int) + (k : Int)) = ((i + k : Nat) : Int) := by rw [wrap_of (by omega) (by omega)]; omega
    have h1 := hi_small ha hb
    have l1 := lo_small ha hb
    have ph := pS_le h1 (i := i) (k := k) (j := i + k) hi (by omega) sa.1
    have pl := pS_le l1 (i := i) (k := k) (j := i + k) hi (by omega) sa.1
    have q1 := h1.2 i k hi (by omega)
    have q2 := l1.2 i k hi (by omega)
    have q3 := ex_le ha hb i k hi (by omega)
    have eh : hAdd (p77 a b i k (i + k)) (rd a (i : Nat)) (rd b (k : Nat)) = p77 a b i (k + 1) (i + k) := by
      unfold hAdd p77
      rw [pS_at, pS_at]
      have g1 : Int.tdiv (rd a (i : Nat) * rd b (k : Nat)) 1000000000 = hiP (rd a (i : Nat)) (rd b (k : Nat)) := rfl
      have g2 : Int.tmod (rd a (i : Nat) * rd b (k : Nat)) 1000000000 = loP (rd a (i : Nat)) (rd b (k : Nat)) := rfl
      rw [wrap_of (x := rd a (i : Nat) * rd b (k : Nat)) (by omega) (by omega), g1, g2, wrap_of (x := hiP (rd a (i : Nat)) (rd b (k : Nat))) (by omega) (by omega)]
      show (⟨wrap64 (pS hiP a b i k (i + k) + hiP (rd a (i : Nat)) (rd b (k : Nat))), wrap64 (pS loP a b i k (i + k) + loP (rd a (i : Nat)) (rd b (k : Nat)))⟩ : S77) = _
      rw [wrap_of (x := pS hiP a b i k (i + k) + hiP (rd a (i : Nat)) (rd b (k : Nat))) (by omega) (by omega), wrap_of (x := pS loP a b i k (i + k) + loP (rd a (i : Nat)) (rd b (k : Nat))) (by omega) (by omega)]
    have lv := v77_length a b n i k
    refine Ev.step (fun q => by rw [impl_MultiplyPolynomials.l1]) ?_
    rw [e1, Int.toNat_natCast, v77_rd hik, eh, v77_set hik, wrap_of (x := (k : Int) + 1) (by omega) (by omega)]
    exact Ev.ite_pos (by omega) (Ev.ite_pos (by omega) (Ev.ite_pos (by omega) (Ev.ite_pos (by omega) (Ev.ite_pos (by omega) hn2))))
theorem mi_outer (n : Nat) (hn : n = a.length + b.length) (o : List Int) (r : List Int × Int)
    (H : Ev (fun q => impl_MultiplyPolynomials.l2 q o (v77 a b n a.length 0) (n : Int) 0) r) :
    ∀ (d i : Nat), i ≤ a.length → a.length - i = d → Ev (fun q => impl_MultiplyPolynomials.l0 q b (v77 a b n i 0) o a (a.length : Int) i) r := by
  have sa := poly_small ha
  intro d
  induction d with
  | zero =>
    intro i hi hd
    obtain rfl : i = a.length := by omega
    refine Ev.step (fun q => by rw [impl_MultiplyPolynomials.l0]) (Ev.ite_neg (by omega) ?_)
    rw [v77_length]
    exact H
  | succ d ih =>
    intro i hi hd
    refine Ev.step (fun q => by rw [impl_MultiplyPolynomials.l0]) ?_
    exact Ev.ite_pos (by omega) (Ev.ite_pos (by omega) (Ev.ite_pos (by omega) (mi_inner ha hb n hn o i (by omega) r (ih (i + 1) (by omega) (by omega)) b.length 0 (by omega) (by omega))))
end
def nL (a b : List Int) (n : Nat) : List Int := (List.range n).map fun j => numH (TS hiP a b a.length j) (TS loP a b a.length j)
theorem nL_succ (a b : List Int) (n : Nat) : nL a b (n + 1) = nL a b n ++ [numH (TS hiP a b a.length n) (TS loP a b a.length n)] := by simp [nL, List.range_succ]
theorem nL_length (a b : List Int) (n : Nat) : (nL a b n).length = n := by simp [nL]
theorem mi_out (a b : List Int) (n : Nat) (hn : n ≤ 100) : ∀ (d j : Nat), j ≤ n → n - j = d → Ev (fun q => impl_MultiplyPolynomials.l2 q (nL a b j) (v77 a b n a.length 0) (n : Int) j) (toldR (trimL (nL a b n))) := by
  intro d
  induction d with
  | zero =>
    intro j hj hd
    obtain rfl : j = n := by omega
    have hl := nL_length a b j
    refine Ev.step (fun q => by rw [impl_MultiplyPolynomials.l2]) (Ev.ite_neg (by omega) ?_)
    exact Ev.bind (ev_impl_told _ (by omega)) (Ev.now _)
  | succ d ih =>
    intro j hj hd
    have hl := nL_length a b j
    have lv := v77_length a b n a.length 0
    have hn2 := ih (j + 1) (by omega) (by omega)
    rw [nL_succ] at hn2
    refine Ev.step (fun q => by rw [impl_MultiplyPolynomials.l2]) ?_
    rw [v77_rd (show j < n by omega), wrap_of (x := (j : Int) + 1) (by omega) (by omega)]
    unfold p77
    rw [pS_zero, pS_zero]
    exact Ev.ite_pos (by omega) (Ev.ite_pos (by omega) (Ev.ite_pos (by omega) (Ev.ite_pos (by omega) hn2)))
theorem told_same {a b : List Int} (ha : isPolyB a = true) (hb : isPolyB b = true) (n : Nat) : toldR (trimL (nL a b n)) = toldR (trimL (sL a b n)) := by
  have sa := (poly_small ha).1
  by_cases c : ∃ j, j < n ∧ ¬ (-1000 ≤ TS hiP a b a.length j ∧ TS hiP a b a.length j ≤ 1000)
  · obtain ⟨j, hj, hc⟩ := c
    have bl := TS_all (lo_small ha hb) sa j
    have he := ex_hi a b j
    have m1 : numH (TS hiP a b a.length j) (TS loP a b a.length j) ∈ nL a b n := List.mem_map.2 ⟨j, List.mem_range.2 hj, rfl⟩
    have m2 : TS exS a b a.length j ∈ sL a b n := List.mem_map.2 ⟨j, List.mem_range.2 hj, rfl⟩
    have e1 : coefB (numH (TS hiP a b a.length j) (TS loP a b a.length j)) = false := by unfold numH; rw [if_neg hc]; rfl
    have e2 : coefB (TS exS a b a.length j) = false := decide_eq_false (by rw [he]; omega)
    rw [told_big m1 e1, told_big m2 e2]
  · have e : nL a b n = sL a b n := List.map_congr_left fun j hj => by
      have hc : -1000 ≤ TS hiP a b a.length j ∧ TS hiP a b a.length j ≤ 1000 := Classical.byContradiction fun h => c ⟨j, List.mem_range.1 hj, h⟩
      have bl := TS_all (lo_small ha hb) sa j
      have he := ex_hi a b j
      unfold numH
      rw [if_pos hc, wrap_of (x := TS hiP a b a.length j * 1000000000) (by omega) (by omega), wrap_of (by omega) (by omega)]
      exact he.symm
    rw [e]
theorem sum_end (a b : List Int) (len : Nat) (h : len + 1 = a.length + b.length) : sL a b (len + 1) = sL a b len ++ [0] := by
  rw [sL_succ, TS_none exS a b a.length len (by omega) (fun i' hi => by omega)]
theorem zeros_told : ∀ n, trimL (List.replicate n (0 : Int)) = []
  | 0 => rfl
  | n + 1 => by rw [List.replicate_succ', trimL_zero, zeros_told n]
theorem TS_nil (φ : Int → Int → Int) (a b : List Int) (hb : b.length = 0) : ∀ i j, TS φ a b i j = 0
  | 0, _ => rfl
  | i + 1, j => by
    unfold TS tS
    rw [TS_nil φ a b hb i j, if_neg (by omega)]
    rfl
theorem zero_list (a b : List Int) (h : a.length = 0 ∨ b.length = 0) (n : Nat) : sL a b n = List.replicate n 0 := by
  apply List.ext_getElem
  · simp [sL]
  · intro j h1 h2
    simp only [sL, List.getElem_map, List.getElem_range, List.getElem_replicate]
    rcases h with h | h
    · rw [h]; rfl
    · exact TS_nil exS a b h _ _
def MultiplyPolynomialsR (a b : List Int) : List Int × Int := if isPolyB a = true ∧ isPolyB b = true then toldR (trimL (sL a b (a.length + b.length))) else ([], 1)
theorem MultiplyPolynomialsR_le (a b : List Int) (_ : a.length ≤ 1048576) (_ : b.length ≤ 1048576) : (MultiplyPolynomialsR a b).1.length ≤ 41 := by
  unfold MultiplyPolynomialsR
  split
  · exact toldR_le _
  · simp
theorem ev_spec_MultiplyPolynomials (a b : List Int) (ha : a.length ≤ 1048576) (hb : b.length ≤ 1048576) : Ev (fun q => spec_MultiplyPolynomials.f q a b) (MultiplyPolynomialsR a b) := by
  unfold spec_MultiplyPolynomials.f
  refine Ev.bind (ev_spec_l05Poly a (by omega)) ?_
  by_cases p : isPolyB a = true
  · refine Ev.ite_pos p (Ev.bind (ev_spec_l05Poly b (by omega)) (Ev.step (fun n => by rw [spec_MultiplyPolynomials.j0]) ?_))
    by_cases q : isPolyB b = true
    · have e : MultiplyPolynomialsR a b = toldR (trimL (sL a b (a.length + b.length))) := by unfold MultiplyPolynomialsR; exact if_pos ⟨p, q⟩
      have la := (poly_small p).1
      have lb := (poly_small q).1
      rw [e]
      refine Ev.ite_neg (by simp [q]) ?_
      by_cases z : a.length = 0 ∨ b.length = 0
      · rw [zero_list a b z, zeros_told]
        by_cases z1 : a.length = 0
        · refine Ev.ite_pos (by omega) (Ev.step (fun n => by rw [spec_MultiplyPolynomials.j1]) ?_)
          exact Ev.ite_pos rfl (Ev.now _)
        · have z2 : b.length = 0 := by omega
          have z3 : ((b.length : Int) == 0) = true := by rw [z2]; rfl
          rw [z3]
          refine Ev.ite_neg (by omega) (Ev.step (fun n => by rw [spec_MultiplyPolynomials.j1]) ?_)
          exact Ev.ite_pos rfl (Ev.now _)
      · obtain ⟨len, hlen⟩ : ∃ len, len + 1 = a.length + b.length := ⟨a.length + b.length - 1, by omega⟩
        have z2 : ((b.length : Int) == 0) = false := by rw [beq_eq_false_iff_ne]; omega
        have e1 : wrap64 (wrap64 ((a.length : Int) + (b.length : Int)) - 1) = (len : Int) := by rw [wrap_of (x := (a.length : Int) + (b.length : Int)) (by omega) (by omega), wrap_of (by omega) (by omega)]; omega
        rw [← hlen, sum_end a b len hlen, trimL_zero, z2]
        refine Ev.ite_neg (by omega) (Ev.step (fun n => by rw [spec_MultiplyPolynomials.j1]) ?_)
        rw [e1, Int.toNat_natCast, ← vS_start lowS a b len]
        refine Ev.ite_neg (by simp) (Ev.ite_pos (by omega) (Ev.ite_pos (by omega) ?_))
        have h := ms_outer p q len hlen _ (ms_out p q len (by omega) len 0 (by omega) (by omega)) a.length 0 (by omega) (by omega)
        rw [vS_start highS a b len, ← vS_start lowS a b len] at h
        exact h
    · have e : MultiplyPolynomialsR a b = ([], 1) := by unfold MultiplyPolynomialsR; exact if_neg (fun h => q h.2)
      rw [e]
      exact Ev.ite_pos (by simpa using q) (Ev.now _)
  · have e : MultiplyPolynomialsR a b = ([], 1) := by unfold MultiplyPolynomialsR; exact if_neg (fun h => p h.1)
    rw [e]
    exact Ev.ite_neg p (Ev.step (fun n => by rw [spec_MultiplyPolynomials.j0]) (Ev.ite_pos rfl (Ev.now _)))
theorem ev_impl_MultiplyPolynomials (a b : List Int) (ha : a.length ≤ 1048576) (hb : b.length ≤ 1048576) (_ : wfB a = true) (_ : wfB b = true) : Ev (fun q => impl_MultiplyPolynomials.f q a b) (MultiplyPolynomialsR a b) := by
  unfold impl_MultiplyPolynomials.f
  refine Ev.bind (ev_impl_IsPolynomial a (by omega)) ?_
  by_cases p : isPolyB a = true
  · refine Ev.ite_pos p (Ev.bind (ev_impl_IsPolynomial b (by omega)) (Ev.step (fun n => by rw [impl_MultiplyPolynomials.j0]) ?_))
    by_cases q : isPolyB b = true
    · have e : MultiplyPolynomialsR a b = toldR (trimL (sL a b (a.length + b.length))) := by unfold MultiplyPolynomialsR; exact if_pos ⟨p, q⟩
      have la := (poly_small p).1
      have lb := (poly_small q).1
      have e1 : wrap64 ((a.length : Int) + (b.length : Int)) = ((a.length + b.length : Nat) : Int) := by rw [wrap_of (by omega) (by omega)]; omega
      rw [e, e1, Int.toNat_natCast, ← v77_start a b, ← told_same p q]
      refine Ev.ite_neg (by simp [q]) (Ev.ite_pos (by omega) (Ev.ite_pos (by omega) ?_))
      exact mi_outer p q _ rfl [] _ (mi_out a b _ (by omega) _ 0 (by omega) rfl) a.length 0 (by omega) (by omega)
    · have e : MultiplyPolynomialsR a b = ([], 1) := by unfold MultiplyPolynomialsR; exact if_neg (fun h => q h.2)
      rw [e]
      exact Ev.ite_pos (by simpa using q) (Ev.now _)
  · have e : MultiplyPolynomialsR a b = ([], 1) := by unfold MultiplyPolynomialsR; exact if_neg (fun h => p h.1)
    rw [e]
    exact Ev.ite_neg p (Ev.step (fun n => by rw [impl_MultiplyPolynomials.j0]) (Ev.ite_pos rfl (Ev.now _)))
theorem FnExactMultiplyPolynomials : laws_FnExactMultiplyPolynomials.Pure := by
  intro l0 l1 hml0 hsl0 hwl0 hml1 hsl1 hwl1
  have hfl0 : wfB l0 = true := List.all_eq_true.2 hwl0
  have hfl1 : wfB l1 = true := List.all_eq_true.2 hwl1
  refine Ev.rounds ?_
  unfold laws_FnExactMultiplyPolynomials.f
  by_cases hl0 : l0.length ≤ 1048576
  rotate_left
  · exact Ev.ite_pos (by omega) (Ev.now _)
  by_cases hl1 : l1.length ≤ 1048576
  rotate_left
  · exact Ev.ite_neg (by omega) (Ev.ite_pos (by omega) (Ev.now _))
  have hr := MultiplyPolynomialsR_le l0 l1 hl0 hl1
  have S := ev_spec_MultiplyPolynomials l0 l1 hl0 hl1
  have I := ev_impl_MultiplyPolynomials l0 l1 hl0 hl1 hfl0 hfl1
  have Tl0 := ev_toInt64S l0 (by omega)
  have El0 := ev_eq_same l0 (by omega)
  have Ml0 := ev_markInt64S l0 1 (by omega) (by omega)
  have Tl1 := ev_toInt64S l1 (by omega)
  have El1 := ev_eq_same l1 (by omega)
  have Ml1 := ev_markInt64S l1 1 (by omega) (by omega)
  have ER := ev_eq_same (MultiplyPolynomialsR l0 l1).1 (by omega)
  have MR := ev_markInt64S (MultiplyPolynomialsR l0 l1).1 1 (by omega) (by omega)
  have HR := ev_heldInt64S (MultiplyPolynomialsR l0 l1).1.length 1 (by omega) (by omega)
  have MQ := ev_markInt64S l1 (1 + (l0.length : Int)) (by omega) (by omega)
  repeat (first
    | exact Ev.now _
    | refine Ev.bind Tl0 ?_
    | refine Ev.bind Tl1 ?_
    | refine Ev.bind S ?_
    | refine Ev.bind I ?_
    | refine Ev.bind El0 ?_
    | refine Ev.bind Ml0 ?_
    | refine Ev.bind El1 ?_
    | refine Ev.bind Ml1 ?_
    | refine Ev.bind ER ?_
    | refine Ev.bind MR ?_
    | refine Ev.bind HR ?_
    | refine Ev.bind MQ ?_
    | refine Ev.ite_pos rfl ?_
    | (refine Ev.ite_neg ?_ ?_; focus (first | (simp; done) | (simp; omega) | omega))
    | (apply Ev.step; focus (intro n; first | rw [laws_FnExactMultiplyPolynomials.j0] | rw [laws_FnExactMultiplyPolynomials.j1] | rw [laws_FnExactMultiplyPolynomials.j2])))
end Go.Proofs.Ytpfhbdpmafcnfaa.Pure
