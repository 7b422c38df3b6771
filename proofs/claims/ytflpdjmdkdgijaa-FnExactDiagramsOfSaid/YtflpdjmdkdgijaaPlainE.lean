/-
  Plain lemmas on a row of rows from which what a test names is struck, in place. No program in sight.
-/
import Derived.Test.YtflpdjmdkdgijaaPlainD
import Derived.Test.YtflpdjmdkdgijaaWApart
namespace Go.Proofs.Ytflpdjmdkdgijaa.Plain
open Go.RowKit Go.Maps Go.Proofs.YtflpdjmdkdgijaaW.PrintWords Go.Proofs.YtflpdjmdkdgijaaW.PrintLast Go.Proofs.YtflpdjmdkdgijaaW.PrintMore
set_option linter.unusedVariables false
set_option linter.unusedSimpArgs false
section
variable {α : Type}
/-- The first place whose element a test names; -1 where there is none. -/
def idxG (p : α → Bool) : List α → Nat → Int
  | [], _ => -1
  | x :: l, j => if p x = true then (j : Int) else idxG p l (j + 1)
theorem idxG_none (p : α → Bool) : ∀ (l : List α) (j : Nat), idxG p l j = -1 → ∀ x ∈ l, p x = false
  | [], _, _, x, hx => by simp at hx
  | y :: l, j, h, x, hx => by
    unfold idxG at h
    by_cases hp : p y = true
    · rw [if_pos hp] at h; omega
    · rw [if_neg hp] at h
      rcases List.mem_cons.1 hx with rfl | hx
      · simpa using hp
      · exact idxG_none p l (j + 1) h x hx
theorem idxG_some (p : α → Bool) : ∀ (l : List α) (j : Nat), idxG p l j ≠ -1 → ∃ i, idxG p l j = ((j + i : Nat) : Int) ∧ i < l.length ∧ (∀ x ∈ l.take i, p x = false) ∧ ∃ x, l[i]? = some x ∧ p x = true
  | [], _, h => absurd rfl h
  | y :: l, j, h => by
    unfold idxG at h ⊢
    by_cases hp : p y = true
    · rw [if_pos hp]
      exact ⟨0, by simp, by simp, by simp, y, by simp, hp⟩
    · rw [if_neg hp] at h ⊢
      obtain ⟨i, h1, h2, h3, x, h4, h5⟩ := idxG_some p l (j + 1) h
      refine ⟨i + 1, by rw [h1]; congr 1; omega, by simpa using h2, ?_, x, by simpa using h4, h5⟩
      intro z hz
      rw [List.take_succ_cons] at hz
      rcases List.mem_cons.1 hz with rfl | hz
      · simpa using hp
      · exact h3 z hz
/-- What is kept. -/
def keepG (p : α → Bool) (l : List α) : List α := l.filter fun x => !p x
theorem keepG_all {p : α → Bool} {l : List α} (h : ∀ x ∈ l, p x = false) : keepG p l = l := by
  unfold keepG
  rw [List.filter_eq_self]
  intro x hx
  rw [h x hx]; rfl
/-- Some way on: i of j elements have been kept, and lie ahead. -/
structure KeepG (p : α → Bool) (l : List α) (i j : Nat) (L : List α) : Prop where
  len : L.length = l.length
  lt : i < j
  le : j ≤ l.length
  done : L.take i = keepG p (l.take j)
  rest : L.drop j = l.drop j
  mem : ∀ t ∈ L, t ∈ l
theorem KeepG.start {p : α → Bool} {l : List α} {i : Nat} (hi : i < l.length) (h : ∀ x ∈ l.take i, p x = false) (hx : ∃ x, l[i]? = some x ∧ p x = true) : KeepG p l i (i + 1) l := by
  refine ⟨rfl, by omega, by omega, ?_, rfl, fun t ht => ht⟩
  obtain ⟨x, h1, h2⟩ := hx
  have e : l[i] = x := by rw [List.getElem?_eq_getElem hi] at h1; exact Option.some.inj h1
  rw [List.take_succ_eq_append_getElem hi]
  have h3 := keepG_all h
  unfold keepG at h3 ⊢
  rw [List.filter_append, h3, e]
  simp [h2]
theorem KeepG.at_ {p : α → Bool} {l L : List α} {i j : Nat} (h : KeepG p l i j L) (hj : j < l.length) : L[j]'(by rw [h.len]; exact hj) = l[j] := by
  have h1 : (L.drop j)[0]? = (l.drop j)[0]? := by rw [h.rest]
  rw [List.getElem?_drop, List.getElem?_drop, Nat.add_zero, List.getElem?_eq_getElem (by rw [h.len]; exact hj), List.getElem?_eq_getElem hj] at h1
  exact Option.some.inj h1
theorem KeepG.keep {p : α → Bool} {l L : List α} {i j : Nat} (h : KeepG p l i j L) (hj : j < l.length) (hp : p l[j] = false) : KeepG p l (i + 1) (j + 1) (L.set i l[j]) := by
  have hlt := h.lt
  have hle := h.le
  have hlen := h.len
  refine ⟨by rw [List.length_set]; exact h.len, by omega, by omega, ?_, ?_, ?_⟩
  · have h1 := h.done
    have hiL : i < (L.set i l[j]).length := by rw [List.length_set]; omega
    rw [List.take_succ_eq_append_getElem hiL, List.take_succ_eq_append_getElem hj]
    unfold keepG at h1 ⊢
    rw [List.filter_append, ← h1, List.getElem_set_self, List.take_set_of_le (Nat.le_refl i)]
    simp [hp]
  · rw [List.drop_set_of_lt (by omega)]
    have h2 : (L.drop j).drop 1 = (l.drop j).drop 1 := by rw [h.rest]
    rw [List.drop_drop, List.drop_drop] at h2
    exact h2
  · intro t ht
    rcases List.mem_or_eq_of_mem_set ht with ht | rfl
    · exact h.mem t ht
    · exact List.getElem_mem hj
theorem KeepG.skip {p : α → Bool} {l L : List α} {i j : Nat} (h : KeepG p l i j L) (hj : j < l.length) (hp : p l[j] = true) : KeepG p l i (j + 1) L := by
  have hlt := h.lt
  refine ⟨h.len, by omega, by omega, ?_, ?_, h.mem⟩
  · have h1 := h.done
    rw [List.take_succ_eq_append_getElem hj]
    unfold keepG at h1 ⊢
    rw [List.filter_append, ← h1]
    simp [hp]
  · have h2 : (L.drop j).drop 1 = (l.drop j).drop 1 := by rw [h.rest]
    rw [List.drop_drop, List.drop_drop] at h2
    exact h2
theorem KeepG.end_ {p : α → Bool} {l L : List α} {i : Nat} (h : KeepG p l i l.length L) : L.take i = keepG p l := by
  have h1 := h.done
  rwa [List.take_length] at h1
end
/-- An element of a row of rows: what it is, its place, its value. -/
abbrev Trip := (List Int × Nat) × Value
/-- The elements of a row of rows, each with its own blocks (f names them by their places). -/
structure Trips (w : World) (base e g : Nat) (ok : Nat → Prop) (f : Nat → Nat) (xs : List (List Int)) (l : List Trip) : Prop where
  fst : l.map (·.1) = xs.zipIdx
  elem : ∀ t ∈ l, Kd.R (Kd.int .i64) e w base (fun k => (ok k ∧ k ≠ g) ∧ f k = t.1.2) t.2 t.1.1
theorem Trips.len {w : World} {base e g : Nat} {ok : Nat → Prop} {f : Nat → Nat} {xs : List (List Int)} {l : List Trip} (h : Trips w base e g ok f xs l) : l.length = xs.length := by
  have := congrArg List.length h.fst
  rwa [List.length_map, List.length_zipIdx] at this
theorem Trips.step {w w1 : World} {base e g : Nat} {ok : Nat → Prop} {f : Nat → Nat} {xs : List (List Int)} {l : List Trip} (h : Trips w base e g ok f xs l) (hb : w.grownBy w1 (some g)) : Trips w1 base e g ok f xs l :=
  ⟨h.fst, fun t ht => Kd.R_grown (h.elem t ht) hb (fun k hk e => hk.1.2 (Option.some.inj e))⟩
/-- A row of rows laid open. -/
theorem S_open {w : World} {base e e2 g n c : Nat} {ok : Nat → Prop} {xs : List (List Int)} (h : Kd.S (Kd.slice e (Kd.int .i64)) e2 w base ok (.slice (some ⟨g, 0, none⟩) n c) xs) :
    ∃ (f : Nat → Nat) (l : List Trip), Trips w base e g ok f xs l ∧ w.ownsRow base e2 1 (.slice (some ⟨g, 0, none⟩) n c) xs.length (l.map (·.2)) ∧ ok g := by
  obtain ⟨f, h0, inner, ho, hr⟩ := h
  have hz : inner.length = xs.length := by have := hr.1; rw [List.length_zipIdx] at this; rw [this]; exact Nat.mul_one _
  refine ⟨f, xs.zipIdx.zip inner, ⟨?_, ?_⟩, ?_, h0 g rfl⟩
  · exact List.map_fst_zip (by rw [List.length_zipIdx, hz]; exact Nat.le_refl _)
  · intro t ht
    obtain ⟨j, hj, e1⟩ := List.mem_iff_getElem.1 ht
    have hj2 : j < xs.length := by rw [List.length_zip, List.length_zipIdx, hz] at hj; omega
    have hx : xs.zipIdx[j]? = some (xs[j], j) := by rw [List.getElem?_zipIdx, Nat.zero_add, List.getElem?_eq_getElem hj2]; rfl
    have h1 := hr.2 j _ hx
    have e2 : t = ((xs[j], j), inner[j]'(by omega)) := by
      rw [← e1, List.getElem_zip]
      congr 1
      rw [List.getElem?_eq_getElem (by rw [List.length_zipIdx]; exact hj2)] at hx
      exact Option.some.inj hx
    have h2 : (inner.drop (j * 1)).take 1 = [inner[j]'(by omega)] := by
      rw [Nat.mul_one, List.drop_eq_getElem_cons (by omega)]
      rfl
    obtain ⟨v, hv, hR⟩ : ∃ v, (inner.drop (j * 1)).take 1 = [v] ∧ Kd.R (Kd.int .i64) e w base (fun k => (ok k ∧ some k ≠ (Value.slice (some ⟨g, 0, none⟩) n c).ownBlock) ∧ f k = j) v xs[j] := h1
    rw [h2] at hv
    injection hv with hv
    subst e2
    rw [← hv] at hR
    exact Kd.R_mono hR (fun k hk => ⟨⟨hk.1.1, fun e => hk.1.2 (by rw [e]; rfl)⟩, hk.2⟩)
  · rw [List.length_zipIdx] at ho
    rw [List.map_snd_zip (by rw [List.length_zipIdx, hz]; exact Nat.le_refl _)]
    exact ho
/-- And shut, with some of the elements, in their order. -/
theorem S_shut {w : World} {base e e2 g n c : Nat} {ok : Nat → Prop} {f : Nat → Nat} {xs : List (List Int)} {l K : List Trip} (h : Trips w base e g ok f xs l) (hK : K.Sublist l) (hg : ok g)
    (ho : w.ownsRow base e2 1 (.slice (some ⟨g, 0, none⟩) n c) K.length (K.map (·.2))) : Kd.S (Kd.slice e (Kd.int .i64)) e2 w base ok (.slice (some ⟨g, 0, none⟩) n c) (K.map (·.1.1)) := by
  have hnd : (l.map (·.1.2)).Nodup := by
    have e1 : l.map (·.1.2) = (l.map (·.1)).map (·.2) := by rw [List.map_map]; rfl
    rw [e1, h.fst, List.zipIdx_map_snd, ← List.range_eq_range']
    exact List.nodup_range
  have hndK : (K.map (·.1.2)).Nodup := (hK.map _).nodup hnd
  have hlK : ∀ j (hj : j < K.length), K[j] ∈ l := fun j hj => hK.subset (List.getElem_mem hj)
  obtain ⟨f', hr⟩ := Kd.reps_tag (d := Kd.slice e (Kd.int .i64)) (w := w) (base := base) (ok := fun k => ok k ∧ some k ≠ (Value.slice (some ⟨g, 0, none⟩) n c).ownBlock) (xs := K.map (·.1.1)) (inner := K.map (·.2))
    (fun j k => ∃ hj : j < K.length, (ok k ∧ k ≠ g) ∧ f k = K[j].1.2)
    (fun i j k hi hj => by
      obtain ⟨hi, _, e1⟩ := hi
      obtain ⟨hj, _, e2⟩ := hj
      have e3 : (K.map (·.1.2))[i]'(by rw [List.length_map]; exact hi) = (K.map (·.1.2))[j]'(by rw [List.length_map]; exact hj) := by rw [List.getElem_map, List.getElem_map, ← e1, ← e2]
      have hi' : i < (K.map (·.1.2)).length := by rw [List.length_map]; exact hi
      have hj' : j < (K.map (·.1.2)).length := by rw [List.length_map]; exact hj
      rcases Nat.lt_trichotomy i j with h1 | h1 | h1
      · exact absurd e3 (List.pairwise_iff_getElem.1 hndK i j hi' hj' h1)
      · exact h1
      · exact absurd e3.symm (List.pairwise_iff_getElem.1 hndK j i hj' hi' h1))
    (fun j k hk => by
      obtain ⟨_, h1, _⟩ := hk
      exact ⟨h1.1, fun e => h1.2 (by simpa [Value.ownBlock] using e)⟩)
    (by rw [List.length_map, List.length_map]; exact (Nat.mul_one _).symm)
    (fun j x hx => by
      obtain ⟨hj, hx⟩ := List.getElem?_eq_some_iff.1 hx
      rw [List.length_map] at hj
      rw [List.getElem_map] at hx
      subst hx
      have h2 : ((K.map (·.2)).drop (j * 1)).take 1 = [K[j].2] := by
        rw [Nat.mul_one, List.drop_eq_getElem_cons (by rw [List.length_map]; exact hj), List.getElem_map]
        rfl
      exact ⟨K[j].2, h2, Kd.R_mono (h.elem _ (hlK j hj)) (fun k hk => ⟨hj, hk⟩)⟩)
  refine ⟨f', fun k hk => ?_, K.map (fun (t : Trip) => t.2), ?_, hr⟩
  · have : g = k := by simpa [Value.ownBlock] using hk
    rw [← this]; exact hg
  · rw [List.length_zipIdx, List.length_map]; exact ho
end Go.Proofs.Ytflpdjmdkdgijaa.Plain
