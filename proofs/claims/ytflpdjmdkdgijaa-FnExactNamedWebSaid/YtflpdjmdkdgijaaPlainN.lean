/-
  Plain lemmas on maps whose elements are told as the values that they are (H := Value): look-up, look-up with comma-ok, update. No program in sight.
-/
import Derived.Test.YtflpdjmdkdgijaaPlainA
import Derived.Test.YtflpdjmdkdgijaaWKept
import Derived.Maps.OwnSet
namespace Go.Proofs.Ytflpdjmdkdgijaa.Plain
open Go.RowKit Go.Maps Go.Proofs.YtflpdjmdkdgijaaW.PrintWords Go.Proofs.YtflpdjmdkdgijaaW.PrintLast Go.Proofs.YtflpdjmdkdgijaaW.PrintMore
set_option linter.unusedVariables false
/-- An element reads as itself. -/
def heldR (v : Value) : Option (DataW Value × List MemPlace) := some (.held v, [])
/-- What a map holds at each key, key by key: f says it. -/
def HoldsM (D : DataW Value) (z : Value) (f : Lit → Option Value) : Prop := Maps.IsMap D ∧ (∀ kl, D.atKey kl (.held z) = .held ((f kl).getD z)) ∧ ∀ kl, Maps.has D kl = (f kl).isSome
theorem HoldsM.none (z : Value) : HoldsM (.map []) z (fun _ => Option.none) := ⟨⟨[], rfl⟩, fun _ => by simp [DataW.atKey], fun _ => by simp [Maps.has]⟩
theorem lookup_held {w : World} {P : Program} {k t e : TypeId} {b n : Nat} {D : DataW Value} {z : Value} {f : Lit → Option Value} (h : w.ownsMap P k heldR b n D) (hD : HoldsM D z f) (K : Keyed P k) (ht : P.underlying t = some (.map k e)) (hz : (zeroValue e).run P w = .ok z w)
    {key : Value} {kl : Lit} (hkey : keyOf P k key = some kl) : (Instr.lookup t (.map (some b)) key false).run P w = .ok ((f kl).getD z) w := by
  obtain ⟨v, ps, hrun, hv⟩ := h.lookup K ht hz (rfl : heldR z = some (.held z, [])) hkey
  rw [hD.2.1 kl] at hv
  unfold heldR at hv
  injection hv with hv
  injection hv with hv _
  injection hv with hv
  rw [← hv]; exact hrun
open Classical in
noncomputable def updM (f : Lit → Option Value) (kl : Lit) (v : Value) : Lit → Option Value := fun x => if x = kl then some v else f x
theorem updM_same (f : Lit → Option Value) (kl : Lit) (v : Value) : updM f kl v kl = some v := by unfold updM; rw [if_pos rfl]
theorem updM_other (f : Lit → Option Value) {kl x : Lit} (v : Value) (h : x ≠ kl) : updM f kl v x = f x := by unfold updM; rw [if_neg h]
/-- An update is told key by key. -/
theorem HoldsM.put {D : DataW Value} {z : Value} {f : Lit → Option Value} (h : HoldsM D z f) {kl : Lit} (hk : WideAt.IsKeyLit kl) (v : Value) : HoldsM (D.put kl (.held v)) z (updM f kl v) := by
  refine ⟨h.1.put kl _, fun x => ?_, fun x => ?_⟩
  · by_cases e : x = kl
    · subst e
      rw [atKey_put_same h.1 hk, updM_same]
      rfl
    · rw [atKey_put_other e, updM_other f v e]
      exact h.2.1 x
  · by_cases e : x = kl
    · subst e
      rw [has_put_same h.1 hk, updM_same]
      rfl
    · rw [has_put_other e, updM_other f v e]
      exact h.2.2 x
theorem update_held {w : World} {P : Program} {k t e : TypeId} {b n : Nat} {D : DataW Value} {z : Value} {f : Lit → Option Value} (h : w.ownsMap P k heldR b n D) (hD : HoldsM D z f) (K : Keyed P k) (ht : P.underlying t = some (.map k e)) (hn : n < maxLen)
    {key v : Value} {kl : Lit} (hkey : keyOf P k key = some kl) : ∃ w' D', (Instr.mapUpdate t (.map (some b)) key v).run P w = .ok () w' ∧ w'.ownsMap P k heldR b (n + 1) D' ∧ HoldsM D' z (updM f kl v) ∧ w.grownBy w' (some b) := by
  obtain ⟨w', hrun, hown, hg⟩ := h.update K ht hn hkey (rfl : heldR v = some (.held v, []))
  exact ⟨w', _, hrun, hown, hD.put (K.key hkey) v, hg⟩
theorem look_ok_held {w : World} {P : Program} {k t e : TypeId} {b n : Nat} {D : DataW Value} {z : Value} {f : Lit → Option Value} (h : w.ownsMap P k heldR b n D) (hD : HoldsM D z f) (K : Keyed P k) (ht : P.underlying t = some (.map k e)) (hz : (zeroValue e).run P w = .ok z w)
    {key : Value} {kl : Lit} (hkey : keyOf P k key = some kl) : (Instr.lookup t (.map (some b)) key true).run P w = .ok (.tuple #[(f kl).getD z, .bool (f kl).isSome]) w := by
  obtain ⟨v, ps, hrun, hv⟩ := h.look_ok K ht hz (rfl : heldR z = some (.held z, [])) hkey
  rw [hD.2.1 kl] at hv
  unfold heldR at hv
  injection hv with hv
  injection hv with hv _
  injection hv with hv
  rw [← hv, ← hD.2.2 kl]; exact hrun
/-- The entry of a map's literal ('insert'), and 'm[k] = v'. -/
theorem wpList_insert_held {P : Program} (w : World) {ops : Array Oper} {rest : List Oper} {o : Oper} {a : Act} {Q : Exit → Act → World → Prop} {z : Value} {f : Lit → Option Value}
    (hg : o.guard = none) (m x v : Operand) (t : TypeId) (hop : o.op = Op.insert t m x v ∨ o.op = Op.mapUpdate t m x v)
    (k e : TypeId) (K : Keyed P k) (ht : P.underlying t = some (.map k e)) (b n : Nat) (D : DataW Value)
    (hm : a.eval m = .map (some b)) (hown : w.ownsMap P k heldR b n D) (hD : HoldsM D z f) (hn : n < maxLen) (key val : Value) (kl : Lit) (hx : a.eval x = key) (hv : a.eval v = val) (hkey : keyOf P k key = some kl)
    (hK : ∀ w' D', w'.ownsMap P k heldR b (n + 1) D' → HoldsM D' z (updM f kl val) → w.grownBy w' (some b) → wpList P ops Q rest (a.put o.dst undef) w') :
    wpList P ops Q (o :: rest) a w := by
  refine wpList_plain hg fun K' hK' => ?_
  obtain ⟨w', D', hrun, r1, r2, r3⟩ := update_held hown hD K ht hn (v := val) hkey
  unfold Oper.wp
  rcases hop with hop | hop
  · simp [execOp, hop, hm, hx, hv, hrun, Result.andThen]
    exact hK' _ _ (hK w' D' r1 r2 r3)
  · simp [execOp, hop, hm, hx, hv, hrun, Result.andThen]
    exact hK' _ _ (hK w' D' r1 r2 r3)
end Go.Proofs.Ytflpdjmdkdgijaa.Plain
