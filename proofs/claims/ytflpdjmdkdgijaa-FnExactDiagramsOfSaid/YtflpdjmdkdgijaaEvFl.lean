/-
  The reference's list of words, as a plain function: what spec.l01Fill answers; and that it is the program's list.
-/
import Derived.Test.YtflpdjmdkdgijaaEvA
import Derived.Test.YtflpdjmdkdgijaaGgS
import Derived.Test.YtflpdjmdkdgijaaGgO0
import Derived.Test.YtflpdjmdkdgijaaGgO
namespace Go.Proofs.Ytflpdjmdkdgijaa.Pure
open Go.RowKit Go.Proofs.Ytflpdjmdkdgijaa.G Go.Proofs.Ytflpdjmdkdgijaa.Plain Go.Proofs.YtflpdjmdkdgijaaW.PrintWords Go.Proofs.YtflpdjmdkdgijaaW.PrintLast
set_option linter.unusedVariables false
/-- The words of n chords that begin with l, so many numbers met; d places are left. -/
def fillF (n : Nat) : Nat → List Int → Nat → List (List Int)
  | 0, l, _ => [l]
  | d + 1, l, met => (List.range (min (met + 1) n)).flatMap fun (y : Nat) => if l.count (y : Int) < 2 then fillF n d (l ++ [(y : Int)]) (max met (y + 1)) else []
theorem flat_bound {α β : Type} (f : α → List β) (B : Nat) : ∀ (l : List α), (∀ x ∈ l, (f x).length ≤ B) → (l.flatMap f).length ≤ l.length * B
  | [], _ => by simp
  | x :: l, h => by
    rw [List.flatMap_cons, List.length_append, List.length_cons, Nat.succ_mul]
    have h1 := h x List.mem_cons_self
    have h2 := flat_bound f B l (fun y hy => h y (List.mem_cons_of_mem _ hy))
    omega
theorem fillF_le (n : Nat) (hn : n ≤ 5) : ∀ (d : Nat) (l : List Int) (met : Nat), (fillF n d l met).length ≤ 6 ^ d
  | 0, l, met => by simp [fillF]
  | d + 1, l, met => by
    rw [fillF]
    have h := flat_bound (fun y : Nat => if l.count (y : Int) < 2 then fillF n d (l ++ [(y : Int)]) (max met (y + 1)) else []) (6 ^ d) (List.range (min (met + 1) n)) (fun y _ => by
      have := fillF_le n hn d (l ++ [(y : Int)]) (max met (y + 1))
      split
      · exact this
      · simp)
    rw [List.length_range] at h
    have h2 : min (met + 1) n * 6 ^ d ≤ 6 * 6 ^ d := Nat.mul_le_mul_right _ (by omega)
    rw [Nat.pow_succ, Nat.mul_comm (6 ^ d)]
    omega
theorem count_take {l : List Int} {i : Nat} (h : i < l.length) (x : Int) : (l.take (i + 1)).count x = (l.take i).count x + if l[i] = x then 1 else 0 := by
  rw [List.take_succ_eq_append_getElem h, List.count_append, List.count_singleton]
  by_cases e : l[i] = x
  · simp [e]
  · rw [if_neg e]
    have : (l[i] == x) = false := beq_eq_false_iff_ne.2 e
    simp [this]
theorem fill_count (l : List Int) (hl : l.length ≤ 1000) (met n x : Int) (out r : List (List Int))
    (h : Ev (fun k => if ((l.count x : Nat) : Int) < 2 then ((spec_l01Own.f l).bind fun t108 => (if t108.length < 17592186044416 then ((spec_l01Fill.f k (t108 ++ [x]) (mx met (wrap64 (x + 1))) n).bind fun t114 => (if out.length + t114.length < 5864062014805 then (spec_l01Fill.l0 k l met n (out ++ t114) (wrap64 (x + 1))) else (none))) else (none))) else (spec_l01Fill.l0 k l met n out (wrap64 (x + 1)))) r) :
    ∀ (d i : Nat), i + d = l.length → Ev (fun k => spec_l01Fill.l1 k l met n out x (((l.take i).count x : Nat) : Int) (i : Int)) r := by
  intro d
  induction d with
  | zero =>
    intro i hi
    refine Ev.step (fun k => by rw [spec_l01Fill.l1]) ?_
    refine Ev.ite_neg (by omega) ?_
    rw [List.take_of_length_le (by omega)]
    exact h
  | succ d ih =>
    intro i hi
    have hlt : i < l.length := by omega
    have hc : (l.take i).count x ≤ 1000 := by have := List.count_le_length (l := l.take i) (a := x); rw [List.length_take] at this; omega
    refine Ev.step (fun k => by rw [spec_l01Fill.l1]) ?_
    refine Ev.ite_pos (by omega) (Ev.ite_pos (by omega) ?_)
    have e2 : wrap64 ((i : Int) + 1) = ((i + 1 : Nat) : Int) := by rw [wrap_of (by omega) (by omega)]; omega
    have h2 := ih (i + 1) (by omega)
    rw [count_take hlt] at h2
    rw [rd_at hlt, e2]
    by_cases e : l[i] = x
    · refine Ev.ite_pos e ?_
      rw [if_pos e] at h2
      have e3 : wrap64 ((((l.take i).count x : Nat) : Int) + 1) = (((l.take i).count x + 1 : Nat) : Int) := by rw [wrap_of (by omega) (by omega)]; omega
      rw [e3]
      exact h2
    · refine Ev.ite_neg e ?_
      rw [if_neg e, Nat.add_zero] at h2
      exact h2
theorem fill_count0 (l : List Int) (hl : l.length ≤ 1000) (met n x : Int) (out r : List (List Int))
    (h : Ev (fun k => if ((l.count x : Nat) : Int) < 2 then ((spec_l01Own.f l).bind fun t108 => (if t108.length < 17592186044416 then ((spec_l01Fill.f k (t108 ++ [x]) (mx met (wrap64 (x + 1))) n).bind fun t114 => (if out.length + t114.length < 5864062014805 then (spec_l01Fill.l0 k l met n (out ++ t114) (wrap64 (x + 1))) else (none))) else (none))) else (spec_l01Fill.l0 k l met n out (wrap64 (x + 1)))) r) :
    Ev (fun k => spec_l01Fill.l1 k l met n out x 0 0) r := by
  have h2 := fill_count l hl met n x out r h l.length 0 (by omega)
  have e0 : ((((l.take 0).count x : Nat)) : Int) = 0 := by simp
  rw [e0] at h2
  exact h2
theorem own_same (l : List Int) (hl : l.length ≤ 1000000) : spec_l01Own.f l = some l := by
  unfold spec_l01Own.f
  rw [Option.bind_some, if_pos (by simp; omega), List.nil_append]
theorem range_flat {α : Type} (f : Nat → List α) (x M : Nat) (h : x < M) : ((List.range' x (M - x)).flatMap f) = f x ++ (List.range' (x + 1) (M - (x + 1))).flatMap f := by
  obtain ⟨e, he⟩ : ∃ e, M - x = e + 1 := ⟨M - x - 1, by omega⟩
  rw [he, List.range'_succ, List.flatMap_cons, show M - (x + 1) = e by omega]
set_option maxRecDepth 100000 in
theorem ev_fill (n : Nat) (hn : n ≤ 5) : ∀ (d : Nat) (l : List Int) (met : Nat), l.length + d = 2 * n → met ≤ n → Ev (fun k => spec_l01Fill.f k l (met : Int) (n : Int)) (fillF n d l met) := by
  intro d
  induction d with
  | zero =>
    intro l met hl hm
    refine Ev.step (fun k => by rw [spec_l01Fill.f]) ?_
    refine Ev.ite_pos (by rw [wrap_of (by omega) (by omega)]; omega) ?_
    exact Ev.now _
  | succ d ih =>
    intro l met hl hm
    refine Ev.step (fun k => by rw [spec_l01Fill.f]) ?_
    refine Ev.ite_neg (by rw [wrap_of (by omega) (by omega)]; omega) ?_
    rw [fillF]
    have hM : min (met + 1) n ≤ 5 := by omega
    have hP : (6 : Nat) ^ d ≤ 6 ^ 10 := Nat.pow_le_pow_right (by omega) (by omega)
    have hP2 : (6 : Nat) ^ 10 = 60466176 := by decide
    have hg : ∀ y : Nat, (if l.count (y : Int) < 2 then fillF n d (l ++ [(y : Int)]) (max met (y + 1)) else []).length ≤ 60466176 := fun y => by
      have := fillF_le n hn d (l ++ [(y : Int)]) (max met (y + 1))
      split
      · omega
      · simp
    have loop : ∀ (e x : Nat) (out : List (List Int)), x + e = min (met + 1) n → out.length ≤ x * 60466176 → Ev (fun k => spec_l01Fill.l0 k l (met : Int) (n : Int) out (x : Int)) (out ++ (List.range' x (min (met + 1) n - x)).flatMap fun (y : Nat) => if l.count (y : Int) < 2 then fillF n d (l ++ [(y : Int)]) (max met (y + 1)) else []) := by
      intro e
      induction e with
      | zero =>
        intro x out hx ho
        rw [show min (met + 1) n - x = 0 by omega]
        simp only [List.range'_zero, List.flatMap_nil, List.append_nil]
        refine Ev.step (fun k => by rw [spec_l01Fill.l0]) ?_
        by_cases c : x ≤ met
        · refine Ev.ite_pos (by omega) ?_
          refine Ev.step (fun k => by rw [spec_l01Fill.j1]) ?_
          refine Ev.ite_neg (by simp; omega) (Ev.now _)
        · refine Ev.ite_neg (by omega) ?_
          refine Ev.step (fun k => by rw [spec_l01Fill.j1]) ?_
          exact Ev.ite_neg (by simp) (Ev.now _)
      | succ e ihe =>
        intro x out hx ho
        have hx5 : x < 5 := by omega
        have hx2 : x * 60466176 ≤ 5 * 60466176 := Nat.mul_le_mul_right _ (by omega)
        rw [range_flat _ x _ (by omega)]
        refine Ev.step (fun k => by rw [spec_l01Fill.l0]) ?_
        refine Ev.ite_pos (by omega) ?_
        refine Ev.step (fun k => by rw [spec_l01Fill.j1]) ?_
        refine Ev.ite_pos (by simp; omega) ?_
        have e1 : wrap64 ((x : Int) + 1) = ((x + 1 : Nat) : Int) := by rw [wrap_of (by omega) (by omega)]; omega
        refine fill_count0 l (by omega) (met : Int) (n : Int) (x : Int) out _ ?_
        rw [e1]
        have hgx := hg x
        by_cases c : l.count (x : Int) < 2
        · rw [if_pos c] at hgx ⊢
          refine Ev.ite_pos (by omega) ?_
          refine Ev.bind (Ev.const (own_same l (by omega))) (Ev.ite_pos (by omega) ?_)
          have e3 : mx (met : Int) ((x + 1 : Nat) : Int) = ((max met (x + 1) : Nat) : Int) := by unfold mx; split <;> omega
          rw [e3]
          refine Ev.bind (ih (l ++ [(x : Int)]) (max met (x + 1)) (by simp; omega) (by omega)) ?_
          refine Ev.ite_pos (by omega) ?_
          rw [← List.append_assoc]
          exact ihe (x + 1) _ (by omega) (by rw [List.length_append]; omega)
        · rw [if_neg c]
          clear hgx
          refine Ev.ite_neg (by omega) ?_
          rw [List.nil_append]
          exact ihe (x + 1) _ (by omega) (Nat.le_trans ho (Nat.mul_le_mul_right _ (Nat.le_succ x)))
    have h := loop (min (met + 1) n) 0 [] (by omega) (by rw [Nat.zero_mul]; exact Nat.zero_le _)
    rw [List.nil_append, Nat.sub_zero, ← List.range_eq_range'] at h
    exact h
theorem words_fill (n : Nat) (hn : n ≤ 5) : fillF n (2 * n) [] 0 = wordsF n := by
  match n with
  | 0 => decide +kernel
  | 1 => decide +kernel
  | 2 => decide +kernel
  | 3 => decide +kernel
  | 4 => decide +kernel
  | 5 => decide +kernel
  | n + 6 => omega
theorem ev_all (n : Nat) (hn : n ≤ 5) : Ev (fun k => spec_l01All.f k (n : Int)) (wordsF n) := by
  unfold spec_l01All.f
  have h := ev_fill n hn (2 * n) [] 0 (by simp) (by omega)
  rw [words_fill n hn] at h
  exact Ev.bind h (Ev.now _)
/-- All rows are of 2n numbers. -/
theorem words_len (n : Nat) (hn : n ≤ 5) : ∀ r ∈ wordsF n, r.length = 2 * n := by
  have h : (wordsF n).all (fun r => decide (r.length = 2 * n)) = true := by
    match n with
    | 0 => decide +kernel
    | 1 => decide +kernel
    | 2 => decide +kernel
    | 3 => decide +kernel
    | 4 => decide +kernel
    | 5 => decide +kernel
    | n + 6 => omega
  intro r hr
  exact of_decide_eq_true (List.all_eq_true.1 h r hr)
end Go.Proofs.Ytflpdjmdkdgijaa.Pure
