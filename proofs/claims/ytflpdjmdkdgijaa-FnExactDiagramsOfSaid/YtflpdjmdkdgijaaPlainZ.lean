/-
  Plain lemmas on a row that is written over: many cells at once, an element taken out. No program in sight.
-/
import Derived.Test.YtflpdjmdkdgijaaPlainD
namespace Go.Proofs.Ytflpdjmdkdgijaa.Plain
open Go.RowKit Go.Proofs.YtflpdjmdkdgijaaW.PrintWords Go.Proofs.YtflpdjmdkdgijaaW.PrintLast Go.Proofs.YtflpdjmdkdgijaaW.PrintMore
set_option linter.unusedVariables false
/-- A list written over from o on. -/
def overL {α : Type} (xs : List α) (o : Nat) : List α → List α
  | [] => xs
  | v :: vs => overL (xs.set o v) (o + 1) vs
theorem overL_length {α : Type} : ∀ (vs : List α) (xs : List α) (o : Nat), (overL xs o vs).length = xs.length
  | [], _, _ => rfl
  | v :: vs, xs, o => by rw [overL, overL_length vs]; simp
theorem overL_get {α : Type} : ∀ (vs : List α) (xs : List α) (o j : Nat), o + vs.length ≤ xs.length → (overL xs o vs)[j]? = if o ≤ j ∧ j < o + vs.length then vs[j - o]? else xs[j]?
  | [], xs, o, j, _ => by rw [overL, if_neg (by simp)]
  | v :: vs, xs, o, j, h => by
    rw [overL, overL_get vs _ (o + 1) j (by simp at h ⊢; omega)]
    simp only [List.length_cons] at h ⊢
    by_cases c : o + 1 ≤ j ∧ j < o + 1 + vs.length
    · rw [if_pos c, if_pos (by omega)]
      obtain ⟨d, rfl⟩ : ∃ d, j = o + 1 + d := ⟨j - (o + 1), by omega⟩
      rw [show o + 1 + d - (o + 1) = d by omega, show o + 1 + d - o = d + 1 by omega, List.getElem?_cons_succ]
    · rw [if_neg c]
      by_cases e : j = o
      · subst e
        rw [if_pos (by omega), Nat.sub_self, List.getElem?_cons_zero, List.getElem?_set_self (by omega)]
      · rw [if_neg (by omega), List.getElem?_set_ne (fun e2 => e e2.symm)]
/-- An element taken out: what stood behind it moves up. -/
theorem overL_drop {α : Type} (xs : List α) (k : Nat) (hk : k < xs.length) : (overL xs k (xs.drop (k + 1))).take (xs.length - 1) = xs.eraseIdx k := by
  apply List.ext_getElem?
  intro j
  rw [List.getElem?_take, overL_get _ _ _ _ (by simp; omega), List.getElem?_eraseIdx]
  simp only [List.length_drop]
  by_cases c : j < xs.length - 1
  · rw [if_pos c]
    by_cases d : j < k
    · rw [if_neg (by omega), if_pos d]
    · rw [if_pos (by omega), if_neg d, List.getElem?_drop]
      congr 1
      omega
  · rw [if_neg c]
    by_cases d : j < k
    · omega
    · rw [if_neg d, List.getElem?_eq_none (by omega)]
theorem own_over {base : Nat} {e : TypeId} {size : Nat} {g n cap : Nat} : ∀ (vs : List Value) (o : Nat) (w : World) (xs : List Value), w.ownsRow base e size (.slice (some ⟨g, 0, none⟩) n cap) n xs →
    (w.setCells g o vs).ownsRow base e size (.slice (some ⟨g, 0, none⟩) n cap) n (overL xs o vs) ∧ w.grownBy (w.setCells g o vs) (some g)
  | [], _, w, _, h => ⟨h, World.grownBy.refl w _⟩
  | v :: vs, o, w, xs, h => by
    have h1 := h.stored o v
    have h2 := own_over vs (o + 1) _ _ h1.1
    exact ⟨h2.1, h1.2.trans h2.2⟩
theorem map_overL {α β : Type} (f : α → β) : ∀ (vs xs : List α) (o : Nat), (overL xs o vs).map f = overL (xs.map f) o (vs.map f)
  | [], _, _ => rfl
  | v :: vs, xs, o => by rw [overL, map_overL f vs, List.map_set, List.map_cons, overL]
theorem R_over {k : IntKind} {e base : Nat} {ok : Nat → Prop} {w : World} {g n cap o : Nat} {L : List Int} (h : (Kd.int k).R e w base ok (.slice (some ⟨g, 0, none⟩) n cap) L) (vs : List Int) :
    (Kd.int k).R e (w.setCells g o (vs.map (Value.int k))) base ok (.slice (some ⟨g, 0, none⟩) n cap) (overL L o vs) ∧ w.grownBy (w.setCells g o (vs.map (Value.int k))) (some g) := by
  obtain ⟨rfl, _⟩ := Kd.R_reads' h
  have h2 := Kd.own_of_R h
  have h3 := own_over (vs.map (Value.int k)) o w _ h2
  refine ⟨Kd.R_of_own (xs := overL L o vs) ?_ h.1, h3.2⟩
  rw [overL_length]
  have e1 : encs (Value.int k) (overL L o vs) = overL (encs (Value.int k) L) o (vs.map (Value.int k)) := map_overL _ _ _ _
  rw [e1]
  exact h3.1
end Go.Proofs.Ytflpdjmdkdgijaa.Plain
