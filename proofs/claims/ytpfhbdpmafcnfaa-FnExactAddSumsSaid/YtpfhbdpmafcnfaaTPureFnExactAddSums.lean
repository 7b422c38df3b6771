/-
  The given law laws.FnExactAddSums returns true for every two sums and every number: the program's AddSums answers as the reference's. No condition.
-/
import Derived.Test.YtpfhbdpmafcnfaaTEvGb
import Derived.Test.YtpfhbdpmafcnfaaTGlAddSums
namespace Go.Proofs.Ytpfhbdpmafcnfaa.Pure
open Go.RowKit Go.Proofs.Ytpfhbdpmafcnfaa.G Go.Proofs.Ytpfhbdpmafcnfaa.Plain Go.Proofs.YtpfhbdpmafcnfaaW.PrintWords Go.Proofs.YtpfhbdpmafcnfaaW.PrintLast
set_option linter.unusedVariables false
set_option linter.unusedSimpArgs false
theorem szTermL_loop (xs : List S110) (hx : ∀ x ∈ xs, x.f0.length ≤ 9223372036854775807) (hl : xs.length ≤ 1048576) : ∀ (d k : Nat) (a : Int), 0 ≤ a → a ≤ 1048576 → k ≤ xs.length → xs.length - k = d →
    ∃ r : Int, Ev (fun n => laws_szTermS.l0 n xs a k) r ∧ (r < 0 ∨ (0 ≤ r ∧ r ≤ a ∧ ∀ x ∈ xs.drop k, x.f0.length ≤ 1048576)) := by
  intro d
  induction d with
  | zero =>
    intro k a h0 h1 hk hd
    refine ⟨a, Ev.step (fun n => by rw [laws_szTermS.l0]) (Ev.ite_neg (by omega) (Ev.now _)), .inr ⟨h0, Int.le_refl _, fun x hx => ?_⟩⟩
    rw [List.drop_of_length_le (by omega)] at hx
    simp at hx
  | succ d ih =>
    intro k a h0 h1 hk hd
    have h : k < xs.length := by omega
    have hm := hx _ (List.getElem_mem h)
    have e := sz_f xs[k].f0 a h0 h1 hm
    have f : laws_szTerm.f (rd_T110 xs k).f0 (rd_T110 xs k).f1 a = some (if a - xs[k].f0.length < 0 then -1 else a - xs[k].f0.length) := by
      rw [rdI h]
      unfold laws_szTerm.f
      rw [e, Option.bind_some]
      by_cases c : a - (xs[k].f0.length : Int) < 0
      · rw [if_pos c]; rfl
      · rw [if_neg c, if_neg c]
    by_cases c : a - (xs[k].f0.length : Int) < 0
    · rw [if_pos c] at f
      refine ⟨-1, Ev.step (fun n => by rw [laws_szTermS.l0]) ?_, .inl (by omega)⟩
      exact Ev.ite_pos (by omega) (Ev.ite_pos (by omega) (Ev.bind (Ev.const f) (Ev.ite_pos (by omega) (Ev.now _))))
    · rw [if_neg c] at f
      obtain ⟨r, hr, hq⟩ := ih (k + 1) (a - xs[k].f0.length) (by omega) (by omega) (by omega) (by omega)
      refine ⟨r, Ev.step (fun n => by rw [laws_szTermS.l0]) ?_, ?_⟩
      · refine Ev.ite_pos (by omega) (Ev.ite_pos (by omega) (Ev.bind (Ev.const f) (Ev.ite_neg c ?_)))
        rw [wrap_of (by omega) (by omega)]
        exact hr
      · rcases hq with hq | ⟨hq, hq2, hz⟩
        · exact .inl hq
        · refine .inr ⟨hq, by omega, fun x hx2 => ?_⟩
          rw [List.drop_eq_getElem_cons h] at hx2
          rcases List.mem_cons.1 hx2 with rfl | hx2
          · omega
          · exact hz x hx2
theorem szSumL_ev (a : Int) (xs : List S110) (left : Int) (h0 : 0 ≤ left) (h1 : left ≤ 1048576) (hn : xs.length ≤ 9223372036854775807) (hx : ∀ x ∈ xs, x.f0.length ≤ 9223372036854775807) :
    ∃ r : Int, Ev (fun n => laws_szSum.f n a xs left) r ∧ (r < 0 ∨ (0 ≤ r ∧ r ≤ left ∧ xs.length ≤ 1048576 ∧ ∀ x ∈ xs, x.f0.length ≤ 1048576)) := by
  have key : ∃ r : Int, Ev (fun n => laws_szTermS.f n xs left) r ∧ (r < 0 ∨ (0 ≤ r ∧ r ≤ left ∧ xs.length ≤ 1048576 ∧ ∀ x ∈ xs, x.f0.length ≤ 1048576)) := by
    unfold laws_szTermS.f
    rw [wrap_of (by omega) (by omega)]
    by_cases c : left - (xs.length : Int) < 0
    · exact ⟨-1, Ev.ite_pos c (Ev.now _), .inl (by omega)⟩
    · obtain ⟨r, hr, hq⟩ := szTermL_loop xs hx (by omega) xs.length 0 (left - xs.length) (by omega) (by omega) (by omega) (by omega)
      refine ⟨r, Ev.ite_neg c hr, ?_⟩
      rcases hq with hq | ⟨hq, hq2, hz⟩
      · exact .inl hq
      · exact .inr ⟨hq, by omega, by omega, hz⟩
  obtain ⟨r, hr, hq⟩ := key
  unfold laws_szSum.f
  by_cases c : r < 0
  · exact ⟨-1, Ev.bind hr (Ev.ite_pos c (Ev.now _)), .inl (by omega)⟩
  · exact ⟨r, Ev.bind hr (Ev.ite_neg c (Ev.now _)), hq⟩
theorem putZ_last (p v : Int) (l : List Int) : ∀ {L : List S89}, (∀ y ∈ L, befW y.f0 l = true) → putZ p L l v = L ++ [⟨l, v % p⟩]
  | [], _ => rfl
  | x :: xs, h => by
    have hx := h x List.mem_cons_self
    unfold putZ
    rw [if_neg (fun e => befW_ne hx e), if_neg (fun e => befW_ne (befW_trans hx e) rfl), putZ_last p v l (fun y hy => h y (List.mem_cons_of_mem _ hy))]
    rfl
theorem addZ_same (p : Int) : ∀ (R pre : List S89), SortedW (pre ++ R) → (∀ x ∈ R, 1 ≤ x.f1 ∧ x.f1 < p) → addZ p 1 pre R = pre ++ R
  | [], pre, _, _ => by simp [addZ]
  | x :: R, pre, hs, hv => by
    have h1 := (List.pairwise_append.1 hs).2.2
    have hx := hv x List.mem_cons_self
    have e : addZ p 1 pre (x :: R) = addZ p 1 (putZ p pre x.f0 (x.f1 * 1)) R := rfl
    have e2 : (⟨x.f0, x.f1 * 1 % p⟩ : S89) = x := by
      rw [Int.mul_one, Int.emod_eq_of_lt (by omega) hx.2]
    rw [e, putZ_last p _ _ (fun y hy => h1 y hy x List.mem_cons_self), e2, addZ_same p R (pre ++ [x]) (by simpa using hs) (fun y hy => hv y (List.mem_cons_of_mem _ hy))]
    simp
theorem nzT_same {L : List S89} (h : ∀ x ∈ L, 1 ≤ x.f1) : nzT L = L := by
  unfold nzT
  refine List.filter_eq_self.2 (fun x hx => ?_)
  have := h x hx
  simp
  omega
theorem Keeps.add {p : Int} (hp : 0 < p) (kk : Int) : ∀ {xs L : List S89} {m : Nat}, Keeps p m L → (∀ x ∈ xs, okW x.f0) → Keeps p (m + xs.length) (addZ p kk L xs)
  | [], _, _, h, _ => h
  | x :: xs, L, m, h, ho => by
    have h2 := Keeps.add hp kk (h.put hp (ho x List.mem_cons_self) (x.f1 * kk)) (fun y hy => ho y (List.mem_cons_of_mem _ hy))
    rw [List.length_cons, show m + (xs.length + 1) = m + 1 + xs.length by omega]
    exact h2
theorem sum_keeps {p : Int} {xs : List S89} (h : sumB p xs = true) : Keeps p 200 xs := by
  obtain ⟨h1, h2, h3, h4⟩ := sum_facts h
  exact ⟨h4, fun x hx => word_ok (h3 x hx).1, fun x hx => by have := h3 x hx; omega, h2⟩
def addR (p : Int) (xs : List S89) (q : Int) (ys : List S89) (kk : Int) : Int × List S89 × Int :=
  if wrongR (sumB p xs) (sumB q ys) p q = 0 then (if 0 ≤ kk ∧ kk ≤ p - 1 then limR p (nzT (addZ p kk xs ys)) else (0, [], 2)) else (0, [], wrongR (sumB p xs) (sumB q ys) p q)
theorem wrong_facts {s0 s1 : Bool} {p q : Int} (h : wrongR s0 s1 p q = 0) : s0 = true ∧ s1 = true ∧ q = p := by
  unfold wrongR at h
  cases s0 <;> cases s1 <;> simp at h
  exact ⟨rfl, rfl, h⟩
theorem addR_le (p : Int) (xs : List S89) (q : Int) (ys : List S89) (kk : Int) : (addR p xs q ys kk).2.1.length ≤ 200 ∧ ∀ x ∈ (addR p xs q ys kk).2.1, x.f0.length ≤ 1048576 := by
  unfold addR
  by_cases e : wrongR (sumB p xs) (sumB q ys) p q = 0
  · rw [if_pos e]
    by_cases e2 : 0 ≤ kk ∧ kk ≤ p - 1
    · rw [if_pos e2]
      obtain ⟨h0, h1, rfl⟩ := wrong_facts e
      have hp := prime_pos (sum_facts h0).1
      have hk := (sum_keeps h0).add hp.1 kk (xs := ys) (fun x hx => word_ok ((sum_facts h1).2.2.1 x hx).1)
      unfold limR
      by_cases c : 200 < (nzT (addZ q kk xs ys)).length
      · rw [if_pos c]; simp
      · rw [if_neg c]
        exact ⟨by simp only; omega, fun x hx => (hk.words x (nzT_sub hx)).1⟩
    · rw [if_neg e2]; simp
  · rw [if_neg e]; simp
theorem kk_bound {a b : Int} (h0 : 0 ≤ a) (h1 : a ≤ 13) (h2 : 1 ≤ b) (h3 : b ≤ 13) : 0 ≤ a * b ∧ a * b ≤ 169 := by
  have x1 : a * b ≤ 13 * 13 := Int.mul_le_mul h1 h3 (by omega) (by omega)
  exact ⟨Int.mul_nonneg h0 (by omega), by omega⟩
theorem copy_loop (p q : Int) : ∀ (R pre : List S89), pre.length + R.length ≤ 1048576 → (∀ x ∈ R, x.f0.length ≤ 1048576) → Ev (fun n => spec_l03Plus.l1 n (pre.length : Int) p (pre ++ R) q pre) (q, pre ++ R)
  | [], pre, hl, _ => by
    refine Ev.step (fun n => by rw [spec_l03Plus.l1]) ?_
    refine Ev.ite_neg (by simp) (Ev.const ?_)
    simp
  | x :: R, pre, hl, hx => by
    rw [List.length_cons] at hl
    have hr : rd_T89 (pre ++ x :: R) (pre.length : Int) = x := by
      rw [rdJ (by simp)]; simp
    have hm := hx x List.mem_cons_self
    refine Ev.step (fun n => by rw [spec_l03Plus.l1]) ?_
    refine Ev.ite_pos (by simp; omega) (Ev.ite_pos (by omega) ?_)
    rw [hr]
    refine Ev.bind (Ev.const (own_fT (by omega))) (Ev.ite_pos (by omega) ?_)
    rw [wrap_of (by omega) (by omega)]
    have h := copy_loop p q R (pre ++ [x]) (by simp; omega) (fun y hy => hx y (List.mem_cons_of_mem _ hy))
    have e2 : (((pre ++ [x]).length : Nat) : Int) = (pre.length : Int) + 1 := by simp
    rw [e2, List.append_assoc] at h
    exact h
theorem plus_loop (p q kk : Int) (xs : List S89) (hp : 0 < p) (hq : p ≤ 13) (hk : Keeps p 200 xs) (h0 : 0 ≤ kk) (h1 : kk ≤ 13) (hn : nzT xs = xs) : ∀ (R pre : List S89), pre.length + R.length ≤ 200 → (∀ x ∈ pre ++ R, isWordB x.f0 = true ∧ 1 ≤ x.f1 ∧ x.f1 < p) →
    Ev (fun n => spec_l03Plus.l0 n kk (pre.length : Int) p xs q (pre ++ R) p (nzT (addZ p kk xs pre))) (p, nzT (addZ p kk xs (pre ++ R)))
  | [], pre, hl, hx => by
    refine Ev.step (fun n => by rw [spec_l03Plus.l0]) ?_
    refine Ev.ite_neg (by simp) ?_
    rw [List.append_nil]
    cases pre with
    | nil =>
      refine Ev.ite_pos (by simp) ?_
      have hc := copy_loop p p xs [] (by have := hk.len; simp; omega) (fun x hx => (hk.words x hx).1)
      have e : addZ p kk xs [] = xs := rfl
      rw [e, hn]
      unfold spec_l03Empty.f
      exact Ev.bind (Ev.now _) hc
    | cons y pre =>
      refine Ev.ite_neg (by simp; omega) (Ev.now _)
  | x :: R, pre, hl, hx => by
    rw [List.length_cons] at hl
    have hr : rd_T89 (pre ++ x :: R) (pre.length : Int) = x := by
      rw [rdJ (by simp)]; simp
    have hw := hx x (by simp)
    have h12 := word_length hw.1
    have hk2 := hk.add hp kk (xs := pre) (fun y hy => word_ok (hx y (List.mem_append_left _ hy)).1)
    have hlen := hk2.len
    have hox := word_ok hw.1
    have hb := kk_bound h0 h1 hw.2.1 (by omega)
    refine Ev.step (fun n => by rw [spec_l03Plus.l0]) ?_
    refine Ev.ite_pos (by simp; omega) (Ev.ite_pos (by omega) ?_)
    rw [hr, wrap_of (x := kk * x.f1) (by omega) (by omega)]
    refine Ev.bind (ev_putT p x.f0 (kk * x.f1) hp (by omega) (by omega) hox.1 (by omega) hk2.sorted (fun y hy => (hk2.words y hy).1) hk2.vals) ?_
    rw [Int.mul_comm kk x.f1, ← addZ_snoc, wrap_of (by omega) (by omega)]
    have h := plus_loop p q kk xs hp hq hk h0 h1 hn R (pre ++ [x]) (by simp; omega) (by simpa using hx)
    have e2 : (((pre ++ [x]).length : Nat) : Int) = (pre.length : Int) + 1 := by simp
    rw [e2, List.append_assoc] at h
    exact h
theorem ev_like (p : Int) (xs : List S89) (q : Int) (ys : List S89) (hl : xs.length ≤ 1048576) (hx : ∀ x ∈ xs, x.f0.length ≤ 1048576) (hm : ys.length ≤ 1048576) (hy : ∀ x ∈ ys, x.f0.length ≤ 1048576) :
    Ev (fun n => spec_l03Like.f n p xs q ys) (wrongR (sumB p xs) (sumB q ys) p q) := by
  have fin : ∀ (b : Bool), Ev (fun n => spec_l03Like.j0 n b p xs q ys) (if b = true then 1 else if p = q then 0 else 2) := by
    intro b
    refine Ev.step (fun n => by rw [spec_l03Like.j0]) ?_
    cases b
    · refine Ev.ite_neg (by simp) ?_
      by_cases e : p = q
      · rw [show (if false = true then (1 : Int) else if p = q then 0 else 2) = 0 by simp [e]]; exact Ev.ite_pos e (Ev.now _)
      · rw [show (if false = true then (1 : Int) else if p = q then 0 else 2) = 2 by simp [e]]; exact Ev.ite_neg e (Ev.now _)
    · exact Ev.ite_pos rfl (Ev.now _)
  unfold spec_l03Like.f wrongR
  refine Ev.bind (ev_spec_l03Is p xs hl hx) ?_
  cases h0 : sumB p xs
  · exact Ev.ite_neg (by simp) (fin true)
  · refine Ev.ite_pos rfl (Ev.bind (ev_spec_l03Is q ys hm hy) ?_)
    have f := fin (!sumB q ys)
    cases h1 : sumB q ys
    · rw [h1] at f; exact f
    · rw [h1] at f
      simp only [Bool.not_true, Bool.false_eq_true, if_false] at f
      rw [if_pos (by simp)]
      by_cases e : p = q
      · rw [if_pos e] at f; rw [if_pos e.symm]; exact f
      · rw [if_neg e] at f; rw [if_neg (fun h => e h.symm)]; exact f
theorem ev_told (p : Int) (xs : List S89) : spec_l03Told.f p xs = some (limR p xs) := by
  unfold spec_l03Told.f limR
  by_cases c : 200 < xs.length
  · rw [if_pos c, if_pos (by omega)]
  · rw [if_neg c, if_neg (by omega)]
theorem ev_spec_add (p : Int) (xs : List S89) (q : Int) (ys : List S89) (kk : Int) (hl : xs.length ≤ 1048576) (hx : ∀ x ∈ xs, x.f0.length ≤ 1048576) (hm : ys.length ≤ 1048576) (hy : ∀ x ∈ ys, x.f0.length ≤ 1048576) :
    Ev (fun n => spec_AddSums.f n p xs q ys kk) (addR p xs q ys kk) := by
  have bad : ∀ (c : Int), c ≠ 0 → Ev (fun n => spec_AddSums.j1 n kk c p xs q ys) (0, [], c) := by
    intro c hc
    refine Ev.step (fun n => by rw [spec_AddSums.j1]) ?_
    exact Ev.ite_neg hc (Ev.now _)
  unfold spec_AddSums.f addR
  refine Ev.bind (ev_like p xs q ys hl hx hm hy) ?_
  by_cases e : wrongR (sumB p xs) (sumB q ys) p q = 0
  · rw [if_pos e]
    obtain ⟨h0, h1, rfl⟩ := wrong_facts e
    have hp := prime_pos (sum_facts h0).1
    refine Ev.ite_pos e ?_
    rw [wrap_of (by omega) (by omega), in_spec, e]
    refine Ev.bind (Ev.now _) ?_
    refine Ev.step (fun n => by rw [spec_AddSums.j0]) ?_
    by_cases e2 : 0 ≤ kk ∧ kk ≤ q - 1
    · rw [if_pos e2]
      refine Ev.ite_neg (by simp [e2]) ?_
      refine Ev.step (fun n => by rw [spec_AddSums.j1]) ?_
      refine Ev.ite_pos rfl ?_
      unfold spec_l03Plus.f
      have hs := sum_facts h0
      have ht := sum_facts h1
      have hn : nzT xs = xs := nzT_same (fun x hx => (hs.2.2.1 x hx).2.1)
      have h := plus_loop q q kk xs hp.1 hp.2 (sum_keeps h0) e2.1 (by omega) hn ys [] (by simpa using ht.2.1) (by simpa using ht.2.2.1)
      have e3 : addZ q kk xs [] = xs := rfl
      rw [List.nil_append, e3, hn] at h
      refine Ev.bind h ?_
      rw [ev_told]
      exact Ev.bind (Ev.now _) (Ev.now _)
    · rw [if_neg e2]
      exact Ev.ite_pos (by rw [decide_eq_false e2]; rfl) (bad 2 (by omega))
  · rw [if_neg e]
    refine Ev.ite_neg e ?_
    refine Ev.step (fun n => by rw [spec_AddSums.j0]) ?_
    exact Ev.ite_neg (by simp) (bad _ e)
theorem ev_impl_add (p : Int) (xs : List S89) (q : Int) (ys : List S89) (kk : Int) (hl : xs.length ≤ 1048576) (hx : ∀ x ∈ xs, x.f0.length ≤ 1048576 ∧ wfB x.f0 = true) (hm : ys.length ≤ 1048576) (hy : ∀ x ∈ ys, x.f0.length ≤ 1048576 ∧ wfB x.f0 = true) :
    Ev (fun n => impl_AddSums.f n p xs q ys kk) (addR p xs q ys kk) := by
  unfold impl_AddSums.f addR
  refine Ev.bind (ev_impl_IsSum p xs hl hx) (Ev.bind (ev_impl_IsSum q ys hm hy) ?_)
  by_cases e : (sumB p xs && sumB q ys) = true
  · refine Ev.ite_pos e ?_
    by_cases e1 : q = p
    · have hw : wrongR (sumB p xs) (sumB q ys) p q = 0 := by unfold wrongR; rw [if_pos e, if_pos e1]
      rw [if_pos hw]
      subst e1
      rw [Bool.and_eq_true] at e
      obtain ⟨h0, h1⟩ := e
      have hs := sum_facts h0
      have ht := sum_facts h1
      have hp := prime_pos hs.1
      refine Ev.ite_pos rfl (Ev.bind (ev_valueOkT q kk) ?_)
      by_cases e2 : 0 ≤ kk ∧ kk ≤ q - 1
      · rw [if_pos e2]
        have hv : valB q kk = true := by unfold valB; rw [hs.1]; simpa using e2
        refine Ev.ite_pos hv ?_
        have hn : nzT xs = xs := nzT_same (fun x hx => (hs.2.2.1 x hx).2.1)
        have hok : PlusOk q xs ys kk := by
          refine ⟨⟨hp.1, by omega⟩, fun x hx => ⟨word_ok (hs.2.2.1 x hx).1, ?_⟩, fun x hx => ⟨word_ok (ht.2.2.1 x hx).1, ?_⟩, by have := hs.2.1; have := ht.2.1; omega⟩
          · have := hs.2.2.1 x hx; omega
          · have h3 := ht.2.2.1 x hx
            have := kk_bound e2.1 (by omega) h3.2.1 (show x.f1 ≤ 13 by omega)
            rw [Int.mul_comm] at this
            omega
        refine Ev.bind (Ev.const (if_pos hok)) ?_
        have ea := addZ_same q xs [] (by simpa using hs.2.2.2) (fun x hx => (hs.2.2.1 x hx).2)
        rw [List.nil_append] at ea
        simp only [ea]
        exact Ev.now _
      · rw [if_neg e2]
        have hv : ¬ valB q kk = true := by
          unfold valB
          rw [hs.1]
          simpa using e2
        exact Ev.ite_neg hv (Ev.now _)
    · have hw : wrongR (sumB p xs) (sumB q ys) p q = 2 := by unfold wrongR; rw [if_pos e, if_neg e1]
      rw [if_neg (by omega), hw]
      exact Ev.ite_neg e1 (Ev.now _)
  · have hw : wrongR (sumB p xs) (sumB q ys) p q = 1 := by unfold wrongR; rw [if_neg e]
    rw [if_neg (by omega), hw]
    exact Ev.ite_neg e (Ev.now _)
theorem FnExactAddSums : laws_FnExactAddSums.Pure := by
  intro z0 l0 z1 l1 i2 wz0 hn0 hg0 wz1 hn1 hg1 wi
  obtain ⟨r, er, hr⟩ := szSumL_ev z0 l0 1048576 (by omega) (by omega) hn0 (fun x hx => (hg0 x hx).1)
  rcases hr with hr | ⟨hr, hr2, hl0, hz0⟩
  · obtain ⟨K, hK⟩ := er
    exact .inl ⟨K, r, hK K (Nat.le_refl _), hr⟩
  refine .inr ?_
  obtain ⟨t, et, ht⟩ := szSumL_ev z1 l1 r hr hr2 hn1 (fun x hx => (hg1 x hx).1)
  rcases ht with ht | ⟨ht, ht2, hl1, hz1⟩
  · obtain ⟨K, hK⟩ := er
    obtain ⟨K', hK'⟩ := et
    exact .inl ⟨max K K', r, t, hK _ (by omega), hr, hK' _ (by omega), ht⟩
  refine .inr ?_
  have hc0 : ∀ y ∈ l0.map conv, y.f0.length ≤ 1048576 ∧ wfB y.f0 = true := by
    intro y hy
    obtain ⟨x, hx, rfl⟩ := List.mem_map.1 hy
    exact ⟨hz0 x hx, List.all_eq_true.2 (hg0 x hx).2.1⟩
  have hc1 : ∀ y ∈ l1.map conv, y.f0.length ≤ 1048576 ∧ wfB y.f0 = true := by
    intro y hy
    obtain ⟨x, hx, rfl⟩ := List.mem_map.1 hy
    exact ⟨hz1 x hx, List.all_eq_true.2 (hg1 x hx).2.1⟩
  have hcl0 : (l0.map conv).length ≤ 1048576 := by rw [List.length_map]; exact hl0
  have hcl1 : (l1.map conv).length ≤ 1048576 := by rw [List.length_map]; exact hl1
  have T0 := ev_toSum z0 l0 hl0 hz0
  have T1 := ev_toSum z1 l1 hl1 hz1
  generalize l0.map conv = ys at hc0 hcl0 T0
  generalize l1.map conv = zs at hc1 hcl1 T1
  have h2' := ev_spec_add z0 ys z1 zs i2 hcl0 (fun y hy => (hc0 y hy).1) hcl1 (fun y hy => (hc1 y hy).1)
  have h3' := ev_impl_add z0 ys z1 zs i2 hcl0 hc0 hcl1 hc1
  obtain ⟨b1, b2⟩ := addR_le z0 ys z1 zs i2
  generalize addR z0 ys z1 zs i2 = R at h2' h3' b1 b2
  obtain ⟨g0, g1, c⟩ := R
  have b0 : g1.length ≤ 200 := b1
  have b3 : sizeT g1 ≤ g1.length * (1048576 + 1) := sizeT_le b2
  have b4 : g1.length * (1048576 + 1) ≤ 200 * (1048576 + 1) := Nat.mul_le_mul_right _ b0
  have b5 : sizeT ys ≤ ys.length * (1048576 + 1) := sizeT_le (fun y hy => (hc0 y hy).1)
  have b6 : ys.length * (1048576 + 1) ≤ 1048576 * (1048576 + 1) := Nat.mul_le_mul_right _ hcl0
  have b7 : sizeT zs ≤ zs.length * (1048576 + 1) := sizeT_le (fun y hy => (hc1 y hy).1)
  have b8 : zs.length * (1048576 + 1) ≤ 1048576 * (1048576 + 1) := Nat.mul_le_mul_right _ hcl1
  obtain ⟨K1, h1⟩ := T0
  obtain ⟨K2, h2⟩ := T1
  obtain ⟨K3, h3⟩ := h2'
  obtain ⟨K4, h4⟩ := h3'
  obtain ⟨K5, h5⟩ := ev_eqSumT g0 g1 (by omega) b2
  obtain ⟨K6, h6⟩ := ev_eqSumT z0 ys hcl0 (fun y hy => (hc0 y hy).1)
  obtain ⟨K7, h7⟩ := ev_eqSumT z1 zs hcl1 (fun y hy => (hc1 y hy).1)
  obtain ⟨K8, h8⟩ := ev_markSum ys 1 (by omega) (by omega) hcl0
  obtain ⟨K9, h9⟩ := ev_markSum zs (1 + sizeT ys) (by omega) (by omega) hcl1
  obtain ⟨K10, h10⟩ := ev_markSum g1 1 (by omega) (by omega) (by omega)
  obtain ⟨K11, h11⟩ := ev_heldSum g0 g1 1 (by omega) (by omega) (by omega)
  obtain ⟨K12, h12⟩ := er
  obtain ⟨K13, h13⟩ := et
  have hK : ∃ K, K1 ≤ K ∧ K2 ≤ K ∧ K3 ≤ K ∧ K4 ≤ K ∧ K5 ≤ K ∧ K6 ≤ K ∧ K7 ≤ K ∧ K8 ≤ K ∧ K9 ≤ K ∧ K10 ≤ K ∧ K11 ≤ K ∧ K12 ≤ K ∧ K13 ≤ K := ⟨K1 + K2 + K3 + K4 + K5 + K6 + K7 + K8 + K9 + K10 + K11 + K12 + K13, by omega⟩
  obtain ⟨K, q1, q2, q3, q4, q5, q6, q7, q8, q9, q10, q11, q12, q13⟩ := hK
  exact ⟨K, c, _, g0, g1, _, r, _, ys, _, t, _, zs, _, h1 K q1, h6 K q6, h2 K q2, h7 K q7, h12 K q12, h13 K q13, h3 K q3, h4 K q4, h5 K q5, h8 K q8, h9 K q9, h10 K q10, h11 K q11, by omega, by omega, hr, ht⟩
end Go.Proofs.Ytpfhbdpmafcnfaa.Pure
