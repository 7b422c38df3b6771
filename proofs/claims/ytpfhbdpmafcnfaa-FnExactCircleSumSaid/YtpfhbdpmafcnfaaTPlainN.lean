/-
  Plain lemmas on maps whose elements are told as the values that they are (H := Value): look-up, look-up with comma-ok, update. No program in sight.
-/
import Derived.Test.YtpfhbdpmafcnfaaTPlainA
import Derived.Test.YtpfhbdpmafcnfaaTW
import Derived.Maps.OwnSet
namespace Go.Proofs.Ytpfhbdpmafcnfaa.Plain
open Go.RowKit Go.Maps Go.Proofs.YtpfhbdpmafcnfaaW.PrintWords Go.Proofs.YtpfhbdpmafcnfaaW.PrintLast Go.Proofs.YtpfhbdpmafcnfaaW.PrintMore
set_option linter.unusedVariables false
def heldR (v : Value) : Option (DataW Value × List MemPlace) := some (.held v, [])
def HoldsM (D : DataW Value) (z : Value) (f : Lit → Option Value) : Prop := Maps.IsMap D ∧ (∀ kl, D.atKey kl (.held z) = .held ((f kl).getD z)) ∧ ∀ kl, Maps.has D kl = (f kl).isSome
theorem HoldsM.none (z : Value) : HoldsM (.map []) z (fun _ => Option.none) := ⟨⟨[], rfl⟩, fun _ => by simp [DataW.atKey], fun _ => by simp [Maps.has]⟩
theorem lookup_held {w : World} {P : Program} {k t e : TypeId} {b n : Nat} {D : DataW Value} {z : Value} {f : Lit → Option Value} (h : w.ownsMap P k heldR b n D) (hD : HoldsM D z f) (K : Keyed P k) (ht : P.underlying t = some (.map k e)) (hz : (zeroValue e).run P w = .ok z w)
    {key : Value} {kl : Lit} (hkey : keyOf P k key = some kl) : (Instr.lookup t (.map (some b)) key false).run P w = .ok ((f kl).getD z) w := by
  obtain ⟨v, ps, hrun, hv⟩ := h.lookup K ht hz (rfl : heldR z = some (.held z, [])) hkey
  rw [hD.2.1 kl] at hv
  unfold heldR at hv
  injection hv with hv
  injection hv with hv _
  injection hv with hv
  rw [← hv]; exact hrun
open Classical in
noncomputable def updM (f : Lit → Option Value) (kl : Lit) (v : Value) : Lit → Option Value := fun x => if x = kl then some v else f x
theorem updM_same (f : Lit → Option Value) (kl : Lit) (v : Value) : updM f kl v kl = some v := by unfold updM; rw [if_pos rfl]
theorem updM_other (f : Lit → Option Value) {kl x : Lit} (v : Value) (h : x ≠ kl) : updM f kl v x = f x := by unfold updM; rw [if_neg h]
theorem HoldsM.put {D : DataW Value} {z : Value} {f : Lit → Option Value} (h : HoldsM D z f) {kl : Lit} (hk : WideAt.IsKeyLit kl) (v : Value) : HoldsM (D.put kl (.held v)) z (updM f kl v) := by
  refine ⟨h.1.put kl _, fun x => ?_, fun x => ?_⟩
  · by_cases e : x = kl
    · subst e
      rw [atKey_put_same h.1 hk, updM_same]
      rfl
    · rw [atKey_put_other e, updM_other f v e]
      exact h.2.1 x
  · by_cases e : x = kl
    · subst e
      rw [has_put_same h.1 hk, updM_same]
      rfl
    · rw [has_put_other e, updM_other f v e]
      exact h.2.2 x
theorem update_held {w : World} {P : Program} {k t e : TypeId} {b n : Nat} {D : DataW Value} {z : Value} {f : Lit → Option Value} (h : w.ownsMap P k heldR b n D) (hD : HoldsM D z f) (K : Keyed P k) (ht : P.underlying t = some (.map k e)) (hn : n < maxLen)
    {key v : Value} {kl : Lit} (hkey : keyOf P k key = some kl) : ∃ w' D', (Instr.mapUpdate t (.map (some b)) key v).run P w = .ok () w' ∧ w'.ownsMap P k heldR b (n + 1) D' ∧ HoldsM D' z (updM f kl v) ∧ w.grownBy w' (some b) := by
  obtain ⟨w', hrun, hown, hg⟩ := h.update K ht hn hkey (rfl : heldR v = some (.held v, []))
  exact ⟨w', _, hrun, hown, hD.put (K.key hkey) v, hg⟩
end Go.Proofs.Ytpfhbdpmafcnfaa.Plain
