/-
  Plain lemmas on maps beside rows and boxes; a map of what has been seen; the text of a Gauss code. No program in sight.
-/
import Derived.Test.YtpfhbdpmafcnfaaTPlainA
import Derived.Test.YtpfhbdpmafcnfaaTW
namespace Go.Proofs.Ytpfhbdpmafcnfaa.Plain
open Go.RowKit Go.Maps Go.Proofs.YtpfhbdpmafcnfaaW.PrintWords Go.Proofs.YtpfhbdpmafcnfaaW.PrintLast Go.Proofs.YtpfhbdpmafcnfaaW.PrintMore
set_option linter.unusedVariables false
set_option linter.unusedSimpArgs false
theorem map_ne_blk {H : Type} {w : World} {P : Program} {k : TypeId} {R : Value → Option (DataW H × List MemPlace)} {b n g : Nat} {D : DataW H} {cs : Array Value} {t : Nat} (h : w.ownsMap P k R b n D) (hb : w.heap[g]? = some (.cells cs t (0, 0))) : b ≠ g := by
  obtain ⟨es, clock, hh, _⟩ := h
  rintro rfl
  rw [hh] at hb
  cases hb
theorem map_ne_row {H : Type} {w : World} {P : Program} {k : TypeId} {R : Value → Option (DataW H × List MemPlace)} {b n : Nat} {D : DataW H} {α : Type} {d : Kd α} {e base : Nat} {ok : Nat → Prop} {v : Value} {xs : List α} (h : w.ownsMap P k R b n D) (hr : d.R e w base ok v xs) : some b ≠ v.ownBlock := fun e_ => by
  obtain ⟨inner, ho⟩ := Kd.R_own hr
  obtain ⟨cells, hc⟩ := own_typed ho b e_.symm
  exact map_ne_blk h hc rfl
def Seen (D : DataW Unit) (l : List Int) : Prop := ∀ x : Int, D.atKey (.int .i64 x) (.lit (.bool false)) = .lit (.bool (l.contains x))
theorem Seen.none : Seen (.map []) [] := fun x => by simp [DataW.atKey]
theorem Seen.step {D : DataW Unit} {l : List Int} {x : Int} (hD : Maps.IsMap D) (h : Seen D l) : Seen (D.put (.int .i64 x) (.lit (.bool true))) (l ++ [x]) := by
  intro y
  by_cases e : y = x
  · subst e
    rw [atKey_put_same hD (k := .int .i64 y) trivial]; simp
  · have hne : (Lit.int .i64 y) ≠ Lit.int .i64 x := fun e' => e (by injection e')
    rw [atKey_put_other hne, h y]
    simp [e]
end Go.Proofs.Ytpfhbdpmafcnfaa.Plain
