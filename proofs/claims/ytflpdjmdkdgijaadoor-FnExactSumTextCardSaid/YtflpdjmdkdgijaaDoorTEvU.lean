/-
  Plain laws of sums: copies, comparisons and sizes of their terms; the reference's and the program's test.
-/
import Derived.Test.YtflpdjmdkdgijaaDoorTEvA
import Derived.Test.YtflpdjmdkdgijaaDoorTEvW
import Derived.Test.YtflpdjmdkdgijaaDoorTEvO
import Derived.Test.YtflpdjmdkdgijaaDoorTEvI
import Derived.Test.YtflpdjmdkdgijaaDoorTEvUe
import Derived.Test.YtflpdjmdkdgijaaDoorTGgA
import Derived.Test.YtflpdjmdkdgijaaDoorTG10
import Derived.Test.YtflpdjmdkdgijaaDoorTGgW
namespace Go.Proofs.YtflpdjmdkdgijaaDoor.Pure
open Go.RowKit Go.Proofs.YtflpdjmdkdgijaaDoor.G Go.Proofs.YtflpdjmdkdgijaaDoor.Plain Go.Proofs.YtflpdjmdkdgijaaDoorW.PrintWords Go.Proofs.YtflpdjmdkdgijaaDoorW.PrintLast
set_option linter.unusedVariables false

theorem sz_f (l : List Int) (a : Int) (h0 : 0 ≤ a) (h1 : a ≤ 1048576) (hl : l.length ≤ 9223372036854775807) : laws_szInt64S.f l a = some (if a - l.length < 0 then -1 else a - l.length) := by
  unfold laws_szInt64S.f
  rw [wrap_of (by omega) (by omega)]
  by_cases c : a - (l.length : Int) < 0
  · rw [if_pos c, if_pos c]
  · rw [if_neg c, if_neg c]
theorem rdI {l : List S42} {k : Nat} (h : k < l.length) : rd_T42 l k = l[k] := by
  unfold rd_T42
  rw [Int.toNat_natCast, List.getD_eq_getElem?_getD, List.getElem?_eq_getElem h]
  rfl
theorem szTermS_loop (xs : List S42) (hx : ∀ x ∈ xs, x.f0.length ≤ 9223372036854775807) (hl : xs.length ≤ 1048576) : ∀ (d k : Nat) (a : Int), 0 ≤ a → a ≤ 1048576 → k ≤ xs.length → xs.length - k = d →
    ∃ r : Int, Ev (fun n => laws_szTermS.l0 n xs a k) r ∧ (r < 0 ∨ (0 ≤ r ∧ ∀ x ∈ xs.drop k, x.f0.length ≤ 1048576)) := by
  intro d
  induction d with
  | zero =>
    intro k a h0 h1 hk hd
    refine ⟨a, Ev.step (fun n => by rw [laws_szTermS.l0]) (Ev.ite_neg (by omega) (Ev.now _)), .inr ⟨h0, fun x hx => ?_⟩⟩
    rw [List.drop_of_length_le (by omega)] at hx
    simp at hx
  | succ d ih =>
    intro k a h0 h1 hk hd
    have h : k < xs.length := by omega
    have hm := hx _ (List.getElem_mem h)
    have e := sz_f xs[k].f0 a h0 h1 hm
    have f : laws_szTerm.f (rd_T42 xs k).f0 (rd_T42 xs k).f1 a = some (if a - xs[k].f0.length < 0 then -1 else a - xs[k].f0.length) := by
      rw [rdI h]
      unfold laws_szTerm.f
      rw [e, Option.bind_some]
      by_cases c : a - (xs[k].f0.length : Int) < 0
      · rw [if_pos c]; rfl
      · rw [if_neg c, if_neg c]
    by_cases c : a - (xs[k].f0.length : Int) < 0
    · rw [if_pos c] at f
      refine ⟨-1, Ev.step (fun n => by rw [laws_szTermS.l0]) ?_, .inl (by omega)⟩
      exact Ev.ite_pos (by omega) (Ev.ite_pos (by omega) (Ev.bind (Ev.const f) (Ev.ite_pos (by omega) (Ev.now _))))
    · rw [if_neg c] at f
      obtain ⟨r, hr, hq⟩ := ih (k + 1) (a - xs[k].f0.length) (by omega) (by omega) (by omega) (by omega)
      refine ⟨r, Ev.step (fun n => by rw [laws_szTermS.l0]) ?_, ?_⟩
      · refine Ev.ite_pos (by omega) (Ev.ite_pos (by omega) (Ev.bind (Ev.const f) (Ev.ite_neg c ?_)))
        rw [wrap_of (by omega) (by omega)]
        exact hr
      · rcases hq with hq | ⟨hq, hz⟩
        · exact .inl hq
        · refine .inr ⟨hq, fun x hx2 => ?_⟩
          rw [List.drop_eq_getElem_cons h] at hx2
          rcases List.mem_cons.1 hx2 with rfl | hx2
          · omega
          · exact hz x hx2
theorem szSum_ev (a : Int) (xs : List S42) (hn : xs.length ≤ 9223372036854775807) (hx : ∀ x ∈ xs, x.f0.length ≤ 9223372036854775807) :
    ∃ r : Int, Ev (fun n => laws_szSum.f n a xs 1048576) r ∧ (r < 0 ∨ (0 ≤ r ∧ xs.length ≤ 1048576 ∧ ∀ x ∈ xs, x.f0.length ≤ 1048576)) := by
  have key : ∃ r : Int, Ev (fun n => laws_szTermS.f n xs 1048576) r ∧ (r < 0 ∨ (0 ≤ r ∧ xs.length ≤ 1048576 ∧ ∀ x ∈ xs, x.f0.length ≤ 1048576)) := by
    unfold laws_szTermS.f
    rw [wrap_of (by omega) (by omega)]
    by_cases c : (1048576 : Int) - (xs.length : Int) < 0
    · exact ⟨-1, Ev.ite_pos c (Ev.now _), .inl (by omega)⟩
    · obtain ⟨r, hr, hq⟩ := szTermS_loop xs hx (by omega) xs.length 0 (1048576 - xs.length) (by omega) (by omega) (by omega) (by omega)
      refine ⟨r, Ev.ite_neg c hr, ?_⟩
      rcases hq with hq | ⟨hq, hz⟩
      · exact .inl hq
      · exact .inr ⟨hq, by omega, hz⟩
  obtain ⟨r, hr, hq⟩ := key
  unfold laws_szSum.f
  by_cases c : r < 0
  · exact ⟨-1, Ev.bind hr (Ev.ite_pos c (Ev.now _)), .inl (by omega)⟩
  · exact ⟨r, Ev.bind hr (Ev.ite_neg c (Ev.now _)), hq⟩
def conv (x : S42) : S44 := ⟨x.f0, x.f1⟩
theorem conv_set {xs : List S42} {k : Nat} (h : k < xs.length) : ((xs.take k).map conv ++ List.replicate (xs.length - k) z44).set k (conv xs[k]) = (xs.take (k + 1)).map conv ++ List.replicate (xs.length - (k + 1)) z44 := by
  apply List.ext_getElem
  · simp; omega
  · intro i h1 h2
    rw [List.getElem_set]
    by_cases e : k = i
    · subst e
      rw [if_pos rfl, List.getElem_append_left (by simp; omega)]
      simp
    · rw [if_neg e, List.getElem_append, List.getElem_append]
      simp only [List.length_map, List.length_take, List.getElem_map, List.getElem_take, List.getElem_replicate]
      by_cases hi : i < k
      · rw [dif_pos (by omega), dif_pos (by omega)]
      · rw [dif_neg (by omega), dif_neg (by omega)]
theorem toTermS_loop (xs : List S42) (hl : xs.length ≤ 1048576) (hx : ∀ x ∈ xs, x.f0.length ≤ 1048576) : ∀ (d k : Nat), k ≤ xs.length → xs.length - k = d → Ev (fun n => laws_toTermS.l0 n xs ((xs.take k).map conv ++ List.replicate (xs.length - k) z44) k) (xs.map conv) := by
  intro d
  induction d with
  | zero =>
    intro k hk hd
    obtain rfl : k = xs.length := by omega
    refine Ev.step (fun n => by rw [laws_toTermS.l0]) (Ev.ite_neg (by omega) ?_)
    rw [List.take_length, Nat.sub_self, List.replicate_zero, List.append_nil]
    exact Ev.now _
  | succ d ih =>
    intro k hk hd
    have h : k < xs.length := by omega
    have hm := hx _ (List.getElem_mem h)
    refine Ev.step (fun n => by rw [laws_toTermS.l0]) (Ev.ite_pos (by omega) (Ev.ite_pos (by omega) ?_))
    rw [rdI h]
    have T : Ev (fun n => laws_toTerm.f n xs[k].f0 xs[k].f1) (xs[k].f0, xs[k].f1) := by
      unfold laws_toTerm.f
      exact Ev.bind (ev_toInt64S _ (by omega)) (Ev.now _)
    refine Ev.bind T (Ev.ite_pos (by simp; omega) ?_)
    have i := ih (k + 1) (by omega) (by omega)
    rw [← conv_set h] at i
    rw [Int.toNat_natCast, wrap_of (x := (k : Int) + 1) (by omega) (by omega)]
    exact i
theorem ev_toSum (a : Int) (xs : List S42) (hl : xs.length ≤ 1048576) (hx : ∀ x ∈ xs, x.f0.length ≤ 1048576) : Ev (fun n => laws_toSum.f n a xs) (a, xs.map conv) := by
  unfold laws_toSum.f
  have T : Ev (fun n => laws_toTermS.f n xs) (xs.map conv) := by
    unfold laws_toTermS.f
    refine Ev.ite_pos (by omega) (Ev.ite_pos (by omega) ?_)
    have := toTermS_loop xs hl hx xs.length 0 (by omega) (by omega)
    simpa using this
  exact Ev.bind T (Ev.now _)
def stepB (p : Int) (ys : List S44) (k : Nat) : Bool :=
  isWordB (rd_T44 ys k).f0 && (decide (1 ≤ (rd_T44 ys k).f1 ∧ (rd_T44 ys k).f1 ≤ wrap64 (p - 1)) && (decide (k = 0) || befB (rd_T44 ys ((k : Int) - 1)).f0 (rd_T44 ys k).f0))
def okFrom (p : Int) (ys : List S44) : Nat → Nat → Bool
  | 0, _ => true
  | d + 1, k => stepB p ys k && okFrom p ys d (k + 1)
def sumB (p : Int) (ys : List S44) : Bool := primeB p && (decide (ys.length ≤ 200) && okFrom p ys ys.length 0)
theorem is_loop_spec (p : Int) (ys : List S44) (hl : ys.length ≤ 1048576) (hx : ∀ x ∈ ys, x.f0.length ≤ 1048576) : ∀ (d k : Nat), k ≤ ys.length → ys.length - k = d → Ev (fun n => spec_l03Is.l0 n k p ys) (okFrom p ys d k) := by
  intro d
  induction d with
  | zero =>
    intro k hk hd
    unfold okFrom
    refine Ev.step (fun n => by rw [spec_l03Is.l0]) ?_
    refine Ev.ite_neg (by omega) ?_
    exact Ev.now _
  | succ d ih =>
    intro k hk hd
    have h : k < ys.length := by omega
    have hm : (rd_T44 ys k).f0.length ≤ 1048576 := by rw [rdJ h]; exact hx _ (List.getElem_mem h)
    have i := ih (k + 1) (by omega) (by omega)
    unfold okFrom stepB
    refine Ev.step (fun n => by rw [spec_l03Is.l0]) (Ev.ite_pos (by omega) (Ev.ite_pos (by omega) (Ev.bind (ev_spec_l01Is _) ?_)))
    by_cases a : isWordB (rd_T44 ys k).f0 = true
    · rw [a, Bool.true_and]
      refine Ev.ite_pos rfl (Ev.bind (Ev.const (in_spec _ _ _)) ?_)
      by_cases b : 1 ≤ (rd_T44 ys k).f1 ∧ (rd_T44 ys k).f1 ≤ wrap64 (p - 1)
      · rw [decide_eq_true b, Bool.true_and]
        refine Ev.ite_pos rfl ?_
        rw [wrap_of (x := (k : Int) + 1) (by omega) (by omega)]
        by_cases c : k = 0
        · rw [decide_eq_true c, Bool.true_or, Bool.true_and]
          exact Ev.ite_neg (by omega) i
        · have hm2 : (rd_T44 ys ((k : Int) - 1)).f0.length ≤ 1048576 := by
            have e : ((k : Int) - 1) = ((k - 1 : Nat) : Int) := by omega
            rw [e, rdJ (by omega)]; exact hx _ (List.getElem_mem _)
          rw [decide_eq_false c, Bool.false_or, wrap_of (x := (k : Int) - 1) (by omega) (by omega)]
          refine Ev.ite_pos (by omega) (Ev.ite_pos (by omega) (Ev.ite_pos (by omega) (Ev.bind (ev_before _ _ hm2 hm) ?_)))
          by_cases q : befB (rd_T44 ys ((k : Int) - 1)).f0 (rd_T44 ys k).f0 = true
          · rw [q, Bool.true_and]
            exact Ev.ite_pos rfl i
          · have q2 : befB (rd_T44 ys ((k : Int) - 1)).f0 (rd_T44 ys k).f0 = false := by simpa using q
            rw [q2, Bool.false_and]
            exact Ev.ite_neg (by decide) (Ev.now _)
      · rw [decide_eq_false b, Bool.false_and, Bool.false_and]
        exact Ev.ite_neg (by decide) (Ev.now _)
    · have a2 : isWordB (rd_T44 ys k).f0 = false := by simpa using a
      rw [a2, Bool.false_and, Bool.false_and]
      exact Ev.ite_neg (by decide) (Ev.now _)
theorem is_loop_impl (p : Int) (ys : List S44) (hl : ys.length ≤ 1048576) (hx : ∀ x ∈ ys, x.f0.length ≤ 1048576 ∧ wfB x.f0 = true) : ∀ (d k : Nat), k ≤ ys.length → ys.length - k = d → Ev (fun n => impl_IsSum.l0 n ys (ys.length : Int) k p ys) (okFrom p ys d k) := by
  intro d
  induction d with
  | zero =>
    intro k hk hd
    unfold okFrom
    refine Ev.step (fun n => by rw [impl_IsSum.l0]) ?_
    refine Ev.ite_neg (by omega) ?_
    exact Ev.now _
  | succ d ih =>
    intro k hk hd
    have h : k < ys.length := by omega
    have hm : (rd_T44 ys k).f0.length ≤ 1048576 ∧ wfB (rd_T44 ys k).f0 = true := by rw [rdJ h]; exact hx _ (List.getElem_mem h)
    have i := ih (k + 1) (by omega) (by omega)
    unfold okFrom stepB
    refine Ev.step (fun n => by rw [impl_IsSum.l0]) (Ev.ite_pos (by omega) (Ev.ite_pos (by omega) (Ev.ite_pos (by omega) (Ev.bind (ev_impl_IsWord _ hm.2) ?_))))
    by_cases a : isWordB (rd_T44 ys k).f0 = true
    · rw [a, Bool.true_and]
      refine Ev.ite_pos rfl (Ev.bind (Ev.const (in_impl _ _ _)) ?_)
      by_cases b : 1 ≤ (rd_T44 ys k).f1 ∧ (rd_T44 ys k).f1 ≤ wrap64 (p - 1)
      · rw [decide_eq_true b, Bool.true_and]
        refine Ev.ite_pos rfl ?_
        rw [wrap_of (x := (k : Int) + 1) (by omega) (by omega)]
        by_cases c : k = 0
        · rw [decide_eq_true c, Bool.true_or, Bool.true_and]
          exact Ev.ite_neg (by omega) i
        · have hm2 : (rd_T44 ys ((k : Int) - 1)).f0.length ≤ 1048576 := by
            have e : ((k : Int) - 1) = ((k - 1 : Nat) : Int) := by omega
            rw [e, rdJ (by omega)]; exact (hx _ (List.getElem_mem _)).1
          rw [decide_eq_false c, Bool.false_or, wrap_of (x := (k : Int) - 1) (by omega) (by omega)]
          refine Ev.ite_pos (by omega) (Ev.ite_pos (by omega) (Ev.ite_pos (by omega) (Ev.bind (ev_order _ _ hm2 hm.1) ?_)))
          have ob := ordI_bef (rd_T44 ys ((k : Int) - 1)).f0 (rd_T44 ys k).f0
          by_cases q : befB (rd_T44 ys ((k : Int) - 1)).f0 (rd_T44 ys k).f0 = true
          · rw [q, Bool.true_and]
            refine Ev.ite_neg (fun z => ?_) i
            have := ob.1 z
            rw [q] at this; cases this
          · have q2 : befB (rd_T44 ys ((k : Int) - 1)).f0 (rd_T44 ys k).f0 = false := by simpa using q
            rw [q2, Bool.false_and]
            exact Ev.ite_pos (ob.2 q2) (Ev.now _)
      · rw [decide_eq_false b, Bool.false_and, Bool.false_and]
        exact Ev.ite_neg (by decide) (Ev.now _)
    · have a2 : isWordB (rd_T44 ys k).f0 = false := by simpa using a
      rw [a2, Bool.false_and, Bool.false_and]
      exact Ev.ite_neg (by decide) (Ev.now _)
theorem ev_spec_l03Is (p : Int) (ys : List S44) (hl : ys.length ≤ 1048576) (hx : ∀ x ∈ ys, x.f0.length ≤ 1048576) : Ev (fun n => spec_l03Is.f n p ys) (sumB p ys) := by
  unfold spec_l03Is.f sumB
  refine Ev.bind (Ev.const (prime_spec p)) ?_
  by_cases a : primeB p = true
  · rw [a, Bool.true_and]
    refine Ev.ite_pos rfl ?_
    refine Ev.step (fun n => by rw [spec_l03Is.j0]) ?_
    by_cases b : ys.length ≤ 200
    · rw [decide_eq_true b, Bool.true_and]
      refine Ev.ite_neg (by simp; omega) ?_
      exact is_loop_spec p ys hl hx ys.length 0 (by omega) (by omega)
    · rw [decide_eq_false b, Bool.false_and]
      refine Ev.ite_pos (by simp; omega) ?_
      exact Ev.now _
  · have a2 : primeB p = false := by simpa using a
    rw [a2, Bool.false_and]
    refine Ev.ite_neg (by decide) ?_
    refine Ev.step (fun n => by rw [spec_l03Is.j0]) ?_
    exact Ev.ite_pos rfl (Ev.now _)
theorem ev_impl_IsSum (p : Int) (ys : List S44) (hl : ys.length ≤ 1048576) (hx : ∀ x ∈ ys, x.f0.length ≤ 1048576 ∧ wfB x.f0 = true) : Ev (fun n => impl_IsSum.f n p ys) (sumB p ys) := by
  unfold impl_IsSum.f sumB
  have P : Ev (fun n => impl_isPrime.f n p) (primeB p) := by
    unfold impl_isPrime.f primeB
    exact Ev.bind (ev_slices_ContainsI _ p (by decide)) (Ev.now _)
  refine Ev.bind P ?_
  by_cases a : primeB p = true
  · rw [a, Bool.true_and]
    refine Ev.ite_pos rfl ?_
    refine Ev.step (fun n => by rw [impl_IsSum.j0]) ?_
    by_cases b : ys.length ≤ 200
    · rw [decide_eq_true b, Bool.true_and]
      refine Ev.ite_neg (by simp; omega) ?_
      exact is_loop_impl p ys hl hx ys.length 0 (by omega) (by omega)
    · rw [decide_eq_false b, Bool.false_and]
      refine Ev.ite_pos (by simp; omega) ?_
      exact Ev.now _
  · have a2 : primeB p = false := by simpa using a
    rw [a2, Bool.false_and]
    refine Ev.ite_neg (by decide) ?_
    refine Ev.step (fun n => by rw [impl_IsSum.j0]) ?_
    exact Ev.ite_pos rfl (Ev.now _)
end Go.Proofs.YtflpdjmdkdgijaaDoor.Pure
