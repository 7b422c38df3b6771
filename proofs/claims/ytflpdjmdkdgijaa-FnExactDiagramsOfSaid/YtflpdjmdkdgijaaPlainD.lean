/-
  Plain lemmas on a list from which what a test names is struck, as the library does it: in place. No program in sight.
-/
import Derived.Test.YtflpdjmdkdgijaaPlainF
namespace Go.Proofs.Ytflpdjmdkdgijaa.Plain
open Go.RowKit Go.Maps Go.Proofs.YtflpdjmdkdgijaaW.PrintWords Go.Proofs.YtflpdjmdkdgijaaW.PrintLast Go.Proofs.YtflpdjmdkdgijaaW.PrintMore
set_option linter.unusedVariables false
set_option linter.unusedSimpArgs false
theorem idxF_none (p : Int → Bool) : ∀ (l : List Int) (j : Nat), idxF p l j = -1 → ∀ x ∈ l, p x = false
  | [], _, _, x, hx => by simp at hx
  | y :: l, j, h, x, hx => by
    unfold idxF at h
    by_cases hp : p y = true
    · rw [if_pos hp] at h; omega
    · rw [if_neg hp] at h
      rcases List.mem_cons.1 hx with rfl | hx
      · simpa using hp
      · exact idxF_none p l (j + 1) h x hx
theorem idxF_some (p : Int → Bool) : ∀ (l : List Int) (j : Nat), idxF p l j ≠ -1 → ∃ i, idxF p l j = ((j + i : Nat) : Int) ∧ i < l.length ∧ (∀ x ∈ l.take i, p x = false) ∧ ∃ x, l[i]? = some x ∧ p x = true
  | [], _, h => absurd rfl h
  | y :: l, j, h => by
    unfold idxF at h ⊢
    by_cases hp : p y = true
    · rw [if_pos hp]
      exact ⟨0, by simp, by simp, by simp, y, by simp, hp⟩
    · rw [if_neg hp] at h ⊢
      obtain ⟨i, h1, h2, h3, x, h4, h5⟩ := idxF_some p l (j + 1) h
      refine ⟨i + 1, by rw [h1]; congr 1; omega, by simpa using h2, ?_, x, by simpa using h4, h5⟩
      intro z hz
      rw [List.take_succ_cons] at hz
      rcases List.mem_cons.1 hz with rfl | hz
      · simpa using hp
      · exact h3 z hz
/-- What is kept. -/
def keepL (p : Int → Bool) (l : List Int) : List Int := l.filter fun x => !p x
theorem keepL_all {p : Int → Bool} {l : List Int} (h : ∀ x ∈ l, p x = false) : keepL p l = l := by
  unfold keepL
  rw [List.filter_eq_self]
  intro x hx
  rw [h x hx]; rfl
/-- Some way on: i of j numbers have been kept, and lie ahead. -/
structure KeepInv (p : Int → Bool) (l : List Int) (i j : Nat) (L : List Int) : Prop where
  len : L.length = l.length
  lt : i < j
  le : j ≤ l.length
  done : L.take i = keepL p (l.take j)
  rest : L.drop j = l.drop j
theorem KeepInv.start {p : Int → Bool} {l : List Int} {i : Nat} (hi : i < l.length) (h : ∀ x ∈ l.take i, p x = false) (hx : ∃ x, l[i]? = some x ∧ p x = true) : KeepInv p l i (i + 1) l := by
  refine ⟨rfl, by omega, by omega, ?_, rfl⟩
  obtain ⟨x, h1, h2⟩ := hx
  have e : l[i] = x := by rw [List.getElem?_eq_getElem hi] at h1; exact Option.some.inj h1
  rw [List.take_succ_eq_append_getElem hi]
  have h3 := keepL_all h
  unfold keepL at h3 ⊢
  rw [List.filter_append, h3, e]
  simp [h2]
theorem KeepInv.at_ {p : Int → Bool} {l L : List Int} {i j : Nat} (h : KeepInv p l i j L) (hj : j < l.length) : rd L j = rd l j := by
  unfold rd
  rw [Int.toNat_natCast, List.getD_eq_getElem?_getD, List.getD_eq_getElem?_getD]
  have h1 : (L.drop j)[0]? = (l.drop j)[0]? := by rw [h.rest]
  rw [List.getElem?_drop, List.getElem?_drop, Nat.add_zero] at h1
  rw [h1]
theorem rd_eq {l : List Int} {k : Nat} (h : k < l.length) : rd l k = l[k] := by
  unfold rd
  rw [Int.toNat_natCast, List.getD_eq_getElem?_getD, List.getElem?_eq_getElem h]
  rfl
theorem KeepInv.keep {p : Int → Bool} {l L : List Int} {i j : Nat} (h : KeepInv p l i j L) (hj : j < l.length) (hp : p (rd l j) = false) : KeepInv p l (i + 1) (j + 1) (L.set i (rd l j)) := by
  have hlt := h.lt
  have hle := h.le
  have hlen := h.len
  refine ⟨by rw [List.length_set]; exact h.len, by omega, by omega, ?_, ?_⟩
  · rw [rd_eq hj] at hp ⊢
    have h1 := h.done
    have hiL : i < (L.set i l[j]).length := by rw [List.length_set]; omega
    rw [List.take_succ_eq_append_getElem hiL, List.take_succ_eq_append_getElem hj]
    unfold keepL at h1 ⊢
    rw [List.filter_append, ← h1, List.getElem_set_self, List.take_set_of_le (Nat.le_refl i)]
    simp [hp]
  · rw [List.drop_set_of_lt (by omega)]
    have h2 : (L.drop j).drop 1 = (l.drop j).drop 1 := by rw [h.rest]
    rw [List.drop_drop, List.drop_drop] at h2
    exact h2
theorem KeepInv.skip {p : Int → Bool} {l L : List Int} {i j : Nat} (h : KeepInv p l i j L) (hj : j < l.length) (hp : p (rd l j) = true) : KeepInv p l i (j + 1) L := by
  have hlt := h.lt
  refine ⟨h.len, by omega, by omega, ?_, ?_⟩
  · rw [rd_eq hj] at hp
    have h1 := h.done
    rw [List.take_succ_eq_append_getElem hj]
    unfold keepL at h1 ⊢
    rw [List.filter_append, ← h1]
    simp [hp]
  · have h2 : (L.drop j).drop 1 = (l.drop j).drop 1 := by rw [h.rest]
    rw [List.drop_drop, List.drop_drop] at h2
    exact h2
theorem KeepInv.end_ {p : Int → Bool} {l L : List Int} {i : Nat} (h : KeepInv p l i l.length L) : L.take i = keepL p l := by
  have h1 := h.done
  rwa [List.take_length] at h1
/-- Behind the part that is kept a row is overwritten. -/
theorem own_cut {w : World} {base : Nat} {e : TypeId} {size : Nat} {g n cap : Nat} {xs : List Value} : ∀ (vs : List Value) (o : Nat) (w : World), w.ownsRow base e size (.slice (some ⟨g, 0, none⟩) n cap) n xs → xs.length ≤ o →
    (w.setCells g o vs).ownsRow base e size (.slice (some ⟨g, 0, none⟩) n cap) n xs ∧ w.grownBy (w.setCells g o vs) (some g)
  | [], _, w, h, _ => ⟨h, World.grownBy.refl w _⟩
  | v :: vs, o, w, h, ho => by
    have h1 := h.stored o v
    have e1 : xs.set o v = xs := List.set_eq_of_length_le ho
    rw [e1] at h1
    have h2 := own_cut (w := w) vs (o + 1) _ h1.1 (by omega)
    exact ⟨h2.1, h1.2.trans h2.2⟩
theorem R_cut {k : IntKind} {e base : Nat} {ok : Nat → Prop} {w : World} {g n cap i : Nat} {L : List Int} (h : (Kd.int k).R e w base ok (.slice (some ⟨g, 0, none⟩) n cap) L) (hi : i ≤ L.length) (vs : List Value) :
    (Kd.int k).R e (w.setCells g i vs) base ok (.slice (some ⟨g, 0, none⟩) i cap) (L.take i) ∧ w.grownBy (w.setCells g i vs) (some g) := by
  have h1 := Kd.R_take h hi
  have h2 := Kd.own_of_R h1
  have hl : (L.take i).length = i := by rw [List.length_take]; omega
  rw [hl] at h2
  have h3 := own_cut (w := w) vs i w h2 (by simp [encs]; omega)
  exact ⟨Kd.R_of_own (by rw [hl]; exact h3.1) h1.1, h3.2⟩
end Go.Proofs.Ytflpdjmdkdgijaa.Plain
