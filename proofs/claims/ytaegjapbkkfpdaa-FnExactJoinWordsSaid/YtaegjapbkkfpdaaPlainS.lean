/-
  Plain lemmas: the rotations that leave a word are the multiples of the least one. No program in sight.
-/
import Derived.Test.YtaegjapbkkfpdaaPlainR
namespace Go.Proofs.Ytaegjapbkkfpdaa.Plain
open Go.RowKit Go.Maps Go.Proofs.YtaegjapbkkfpdaaW.PrintWords Go.Proofs.YtaegjapbkkfpdaaW.PrintLast Go.Proofs.YtaegjapbkkfpdaaW.PrintMore
set_option linter.unusedVariables false
set_option linter.unusedSimpArgs false
theorem idxOf_inj {m : List Int} {x y : Int} (hx : x ∈ m) (hy : y ∈ m) (h : m.idxOf x = m.idxOf y) : x = y := by
  have h1 := List.idxOf_lt_length_iff.2 hx
  have h2 := List.idxOf_lt_length_iff.2 hy
  have e1 : m[m.idxOf x] = x := List.getElem_idxOf h1
  have e2 : m[m.idxOf y] = y := List.getElem_idxOf h2
  rw [← e1, ← e2]
  simp only [h]
theorem normalL_at {a : List Int} {i : Nat} (h : i < a.length) : (normalL a)[i]? = some (((firsts a).idxOf a[i] : Nat) : Int) := by
  unfold normalL
  rw [List.getElem?_map, List.getElem?_eq_getElem h]
  rfl
theorem normalL_eq_iff {a : List Int} {i j : Nat} (hi : i < a.length) (hj : j < a.length) : (normalL a)[i]? = (normalL a)[j]? ↔ a[i]? = a[j]? := by
  rw [normalL_at hi, normalL_at hj, List.getElem?_eq_getElem hi, List.getElem?_eq_getElem hj]
  constructor
  · intro h
    have h2 : (firsts a).idxOf a[i] = (firsts a).idxOf a[j] := Int.ofNat.inj (Option.some.inj h)
    rw [idxOf_inj ((mem_firsts a _).2 (List.getElem_mem hi)) ((mem_firsts a _).2 (List.getElem_mem hj)) h2]
  · intro h
    have h2 : a[i] = a[j] := by simpa using h
    rw [h2]
/-- Two lists with the same places alike. -/
def Alike (a b : List Int) : Prop := ∀ i j : Nat, i < a.length → j < a.length → (a[i]? = a[j]? ↔ b[i]? = b[j]?)
theorem alike_of_normal {a b : List Int} (hl : a.length = b.length) (h : normalL a = normalL b) : Alike a b := by
  intro i j hi hj
  rw [← normalL_eq_iff hi hj, h, normalL_eq_iff (by omega) (by omega)]
theorem normal_of_alike : ∀ a : List Int, ∀ b : List Int, a.length = b.length → Alike a b → normalL a = normalL b ∧ (firsts a).length = (firsts b).length := by
  refine snoc_ind ?_ ?_
  · intro b hl _
    have e : b = [] := List.length_eq_zero_iff.1 (by simpa using hl.symm)
    subst e
    exact ⟨rfl, rfl⟩
  · intro a x ih b hl h
    rcases List.eq_nil_or_concat b with e | ⟨b', y, e⟩
    · subst e; simp at hl
    · rw [List.concat_eq_append] at e
      subst e
      have hl' : a.length = b'.length := by simpa using hl
      have h' : Alike a b' := by
        intro i j hi hj
        have hh := h i j (by rw [List.length_append]; omega) (by rw [List.length_append]; omega)
        rw [List.getElem?_append_left hi, List.getElem?_append_left hj, List.getElem?_append_left (by omega), List.getElem?_append_left (by omega)] at hh
        exact hh
      obtain ⟨e1, e2⟩ := ih b' hl' h'
      have hx : ∀ i : Nat, i < a.length → (a[i]? = some x ↔ b'[i]? = some y) := by
        intro i hi
        have hh := h i a.length (by rw [List.length_append]; omega) (by rw [List.length_append, List.length_singleton]; omega)
        have ea : (a ++ [x])[a.length]? = some x := by rw [List.getElem?_append_right (Nat.le_refl _), Nat.sub_self]; rfl
        have eb : (b' ++ [y])[a.length]? = some y := by rw [hl', List.getElem?_append_right (Nat.le_refl _), Nat.sub_self]; rfl
        rw [List.getElem?_append_left hi, ea, List.getElem?_append_left (show i < b'.length by omega), eb] at hh
        exact hh
      by_cases hm : x ∈ a
      · obtain ⟨i, hi, ei⟩ := List.getElem_of_mem hm
        have h1 : b'[i]? = some y := (hx i hi).1 (by rw [List.getElem?_eq_getElem hi, ei])
        have hib : i < b'.length := by omega
        have ey : b'[i] = y := by rw [List.getElem?_eq_getElem hib] at h1; simpa using h1
        have hy : y ∈ b' := by rw [← ey]; exact List.getElem_mem hib
        have hc1 : (firsts a).contains x = true := by rw [List.contains_iff_mem]; exact (mem_firsts a x).2 hm
        have hc2 : (firsts b').contains y = true := by rw [List.contains_iff_mem]; exact (mem_firsts b' y).2 hy
        have ek : (firsts a).idxOf x = (firsts b').idxOf y := by
          have q : (normalL a)[i]? = (normalL b')[i]? := by rw [e1]
          rw [normalL_at hi, normalL_at hib, ei, ey] at q
          exact Int.ofNat.inj (Option.some.inj q)
        rw [normalL_snoc, normalL_snoc, firsts_snoc, firsts_snoc, if_pos hc1, if_pos hc2, e1, ek]
        exact ⟨rfl, e2⟩
      · have hy : y ∉ b' := by
          intro hy
          obtain ⟨i, hi, ei⟩ := List.getElem_of_mem hy
          have h1 := (hx i (by omega)).2 (by rw [List.getElem?_eq_getElem hi, ei])
          exact hm (List.mem_of_getElem? h1)
        have n1 : x ∉ firsts a := fun q => hm ((mem_firsts a x).1 q)
        have n2 : y ∉ firsts b' := fun q => hy ((mem_firsts b' y).1 q)
        have hc1 : ¬ (firsts a).contains x = true := by rw [List.contains_iff_mem]; exact n1
        have hc2 : ¬ (firsts b').contains y = true := by rw [List.contains_iff_mem]; exact n2
        rw [normalL_snoc, normalL_snoc, firsts_snoc, firsts_snoc, if_neg hc1, if_neg hc2, e1, List.idxOf_eq_length n1, List.idxOf_eq_length n2, e2]
        exact ⟨rfl, by rw [List.length_append, List.length_append, e2]; rfl⟩
/-- A rotation by k leaves which places are alike. -/
def Stay (w : List Int) (k : Nat) : Prop := ∀ i j : Nat, i < w.length → j < w.length → (w[(i + k) % w.length]? = w[(j + k) % w.length]? ↔ w[i]? = w[j]?)
theorem rot_get {w : List Int} {k i : Nat} (hk : k ≤ w.length) (hi : i < w.length) : (w.drop k ++ w.take k)[i]? = w[(i + k) % w.length]? := by
  rw [List.getElem?_append, List.length_drop]
  by_cases h : i + k < w.length
  · rw [if_pos (by omega), List.getElem?_drop, Nat.mod_eq_of_lt h, Nat.add_comm]
  · rw [if_neg (by omega), List.getElem?_take_of_lt (by omega), Nat.mod_eq_sub_mod (by omega), Nat.mod_eq_of_lt (by omega)]
    congr 1
    omega
theorem stay_iff {w : List Int} (h : isWordB w = true) {k : Nat} (hk : k ≤ w.length) : rotL w k = w ↔ Stay w k := by
  have hl : (w.drop k ++ w.take k).length = w.length := by rw [List.length_append, List.length_drop, List.length_take]; omega
  have e : rotL w k = w ↔ normalL (w.drop k ++ w.take k) = normalL w := by unfold rotL; rw [word_normal h]
  rw [e]
  constructor
  · intro q i j hi hj
    have := alike_of_normal hl q i j (by omega) (by omega)
    rw [rot_get hk hi, rot_get hk hj] at this
    exact this
  · intro q
    refine (normal_of_alike _ _ hl fun i j hi hj => ?_).1
    rw [rot_get hk (by omega), rot_get hk (by omega)]
    exact q i j (by omega) (by omega)
theorem stay_zero (w : List Int) : Stay w 0 := by
  intro i j hi hj
  rw [Nat.add_zero, Nat.add_zero, Nat.mod_eq_of_lt hi, Nat.mod_eq_of_lt hj]
theorem stay_full (w : List Int) : Stay w w.length := by
  intro i j hi hj
  rw [Nat.add_mod_right, Nat.add_mod_right, Nat.mod_eq_of_lt hi, Nat.mod_eq_of_lt hj]
theorem stay_add {w : List Int} {a b : Nat} (ha : Stay w a) (hb : Stay w b) : Stay w (a + b) := by
  intro i j hi hj
  have h1 := hb ((i + a) % w.length) ((j + a) % w.length) (Nat.mod_lt _ (by omega)) (Nat.mod_lt _ (by omega))
  rw [Nat.mod_add_mod, Nat.mod_add_mod, Nat.add_assoc, Nat.add_assoc] at h1
  exact h1.trans (ha i j hi hj)
theorem stay_sub {w : List Int} {a b : Nat} (ha : Stay w a) (hab : Stay w (a + b)) : Stay w b := by
  intro i j hi hj
  have hn : a % w.length < w.length := Nat.mod_lt _ (by omega)
  have back : ∀ i, i < w.length → ((i + (w.length - a % w.length)) % w.length + a) % w.length = i := by
    intro i hi
    rw [Nat.mod_add_mod, ← Nat.add_mod_mod, show i + (w.length - a % w.length) + a % w.length = i + w.length by omega, Nat.add_mod_right, Nat.mod_eq_of_lt hi]
  have h1 := ha _ _ (Nat.mod_lt (i + (w.length - a % w.length)) (show 0 < w.length by omega)) (Nat.mod_lt (j + (w.length - a % w.length)) (show 0 < w.length by omega))
  have h2 := hab _ _ (Nat.mod_lt (i + (w.length - a % w.length)) (show 0 < w.length by omega)) (Nat.mod_lt (j + (w.length - a % w.length)) (show 0 < w.length by omega))
  rw [← Nat.add_assoc, ← Nat.add_assoc, Nat.add_mod _ b, Nat.add_mod _ b, back i hi, back j hj, ← Nat.mod_mod b, Nat.mod_mod, Nat.add_mod_mod, Nat.add_mod_mod] at h2
  rw [back i hi, back j hj] at h1
  exact h2.trans h1.symm
/-- What the least of them tells of all. -/
theorem stay_mul {w : List Int} {p : Nat} (hp : Stay w p) : ∀ q : Nat, Stay w (p * q)
  | 0 => stay_zero w
  | q + 1 => by rw [Nat.mul_succ]; exact stay_add (stay_mul hp q) hp
theorem stay_least {w : List Int} {p : Nat} (h0 : 0 < p) (hp : Stay w p) (hm : ∀ m, 0 < m → m < p → ¬ Stay w m) (k : Nat) : Stay w k ↔ p ∣ k := by
  constructor
  · intro h
    have e : p * (k / p) + k % p = k := Nat.div_add_mod k p
    have h2 : Stay w (k % p) := stay_sub (stay_mul hp (k / p)) (by rw [e]; exact h)
    have h3 : k % p < p := Nat.mod_lt _ h0
    refine Nat.dvd_of_mod_eq_zero ?_
    rcases Nat.eq_zero_or_pos (k % p) with h4 | h4
    · exact h4
    · exact absurd h2 (hm _ h4 h3)
  · rintro ⟨q, rfl⟩
    exact stay_mul hp q
/-- The least rotation from k on that leaves the word; the whole length, if there is none. -/
def perFrom (w : List Int) : Nat → Nat → Nat
  | 0, k => k
  | d + 1, k => if rotL w k = w then k else perFrom w d (k + 1)
theorem perFrom_spec (w : List Int) : ∀ d k : Nat, k ≤ perFrom w d k ∧ perFrom w d k ≤ k + d ∧ (perFrom w d k < k + d → rotL w (perFrom w d k) = w) ∧ ∀ m, k ≤ m → m < perFrom w d k → rotL w m ≠ w
  | 0, k => ⟨Nat.le_refl _, Nat.le_refl _, fun h => absurd h (Nat.lt_irrefl _), fun m h1 h2 => absurd h2 (Nat.not_lt.2 h1)⟩
  | d + 1, k => by
    unfold perFrom
    by_cases h : rotL w k = w
    · rw [if_pos h]
      exact ⟨Nat.le_refl _, by omega, fun _ => h, fun m h1 h2 => absurd h2 (Nat.not_lt.2 h1)⟩
    · rw [if_neg h]
      obtain ⟨h1, h2, h3, h4⟩ := perFrom_spec w d (k + 1)
      refine ⟨by omega, by omega, fun q => h3 (by omega), fun m h5 h6 => ?_⟩
      by_cases e : m = k
      · rw [e]; exact h
      · exact h4 m (by omega) h6
/-- The rotation number. -/
def perL (w : List Int) : Nat := perFrom w (w.length - 1) 1
theorem perL_dvd {w : List Int} (h : isWordB w = true) (hn : 0 < w.length) : 0 < perL w ∧ perL w ∣ w.length ∧ ∀ k, k ≤ w.length → (rotL w k = w ↔ perL w ∣ k) := by
  obtain ⟨h1, h2, h3, h4⟩ := perFrom_spec w (w.length - 1) 1
  have e : perFrom w (w.length - 1) 1 = perL w := rfl
  rw [e] at h1 h2 h3 h4
  have hp : Stay w (perL w) := by
    by_cases q : perL w < w.length
    · exact (stay_iff h (by omega)).1 (h3 (by omega))
    · have : perL w = w.length := by omega
      rw [this]; exact stay_full w
  have hm : ∀ m, 0 < m → m < perL w → ¬ Stay w m := fun m m0 m1 q => h4 m m0 m1 ((stay_iff h (by omega)).2 q)
  have hall := stay_least h1 hp hm
  exact ⟨h1, (hall _).1 (stay_full w), fun k hk => (stay_iff h hk).trans (hall k)⟩
/-- How many multiples lie below a number. -/
def upTo (p : Nat) : Nat → Nat
  | 0 => 0
  | k + 1 => k / p + 1
theorem upTo_step {p : Nat} (hp : 0 < p) (k : Nat) : upTo p (k + 1) = upTo p k + if p ∣ k then 1 else 0 := by
  cases k with
  | zero => simp [upTo]
  | succ k =>
    show (k + 1) / p + 1 = k / p + 1 + _
    have h1 := Nat.div_add_mod k p
    have h2 := Nat.mod_lt k hp
    by_cases h : p ∣ k + 1
    · rw [if_pos h]
      obtain ⟨q, e⟩ := h
      have e1 : (k + 1) / p = q := by rw [e, Nat.mul_div_cancel_left _ hp]
      have q0 : 0 < q := by rcases Nat.eq_zero_or_pos q with z | z; · rw [z] at e; omega
                            · exact z
      have e2 : k / p = q - 1 := by
        refine Nat.div_eq_of_lt_le ?_ ?_
        · have : (q - 1) * p + p = p * q := by rw [← Nat.succ_mul, Nat.mul_comm]; congr 1; omega
          omega
        · have : (q - 1 + 1) * p = p * q := by rw [Nat.mul_comm]; congr 1; omega
          omega
      rw [e1, e2]; omega
    · rw [if_neg h]
      have h3 : k % p + 1 ≠ p := fun z => h ⟨k / p + 1, by rw [Nat.mul_succ]; omega⟩
      have e2 : (k + 1) / p = k / p := by
        refine Nat.div_eq_of_lt_le ?_ ?_
        · rw [Nat.mul_comm]; omega
        · rw [Nat.succ_mul, Nat.mul_comm]; omega
      rw [e2]
theorem upTo_mul {p : Nat} (hp : 0 < p) (q : Nat) : upTo p (p * q) = q := by
  cases q with
  | zero => rfl
  | succ q =>
    obtain ⟨m, e⟩ : ∃ m, p * (q + 1) = m + 1 := ⟨p * (q + 1) - 1, by have := Nat.mul_pos hp (show 0 < q + 1 by omega); omega⟩
    rw [e]
    show m / p + 1 = q + 1
    have e2 : m / p = q := by
      refine Nat.div_eq_of_lt_le ?_ ?_
      · rw [Nat.mul_comm]; rw [Nat.mul_succ] at e; omega
      · rw [Nat.mul_comm]; omega
    rw [e2]
end Go.Proofs.Ytaegjapbkkfpdaa.Plain
