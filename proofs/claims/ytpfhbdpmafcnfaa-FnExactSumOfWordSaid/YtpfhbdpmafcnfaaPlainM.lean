/-
  Plain lemmas on maps beside rows and boxes; a map of what has been seen; the text of a Gauss code. No program in sight.
-/
import Derived.Test.YtpfhbdpmafcnfaaPlainA
import Derived.Test.YtpfhbdpmafcnfaaWKept
namespace Go.Proofs.Ytpfhbdpmafcnfaa.Plain
open Go.RowKit Go.Maps Go.Proofs.YtpfhbdpmafcnfaaW.PrintWords Go.Proofs.YtpfhbdpmafcnfaaW.PrintLast Go.Proofs.YtpfhbdpmafcnfaaW.PrintMore
set_option linter.unusedVariables false
set_option linter.unusedSimpArgs false
theorem map_ne_blk {H : Type} {w : World} {P : Program} {k : TypeId} {R : Value → Option (DataW H × List MemPlace)} {b n g : Nat} {D : DataW H} {cs : Array Value} {t : Nat} (h : w.ownsMap P k R b n D) (hb : w.heap[g]? = some (.cells cs t (0, 0))) : b ≠ g := by
  obtain ⟨es, clock, hh, _⟩ := h
  rintro rfl
  rw [hh] at hb
  cases hb
theorem map_ne_row {H : Type} {w : World} {P : Program} {k : TypeId} {R : Value → Option (DataW H × List MemPlace)} {b n : Nat} {D : DataW H} {α : Type} {d : Kd α} {e base : Nat} {ok : Nat → Prop} {v : Value} {xs : List α} (h : w.ownsMap P k R b n D) (hr : d.R e w base ok v xs) : some b ≠ v.ownBlock := fun e_ => by
  obtain ⟨inner, ho⟩ := Kd.R_own hr
  obtain ⟨cells, hc⟩ := own_typed ho b e_.symm
  exact map_ne_blk h hc rfl
theorem row_map {H : Type} {w w1 : World} {P : Program} {k : TypeId} {R : Value → Option (DataW H × List MemPlace)} {b n : Nat} {D : DataW H} {α : Type} {d : Kd α} {e base : Nat} {ok : Nat → Prop} {v : Value} {xs : List α} (h : w.ownsMap P k R b n D) (hg : w.grownBy w1 (some b)) (hr : d.R e w base ok v xs) : d.R e w1 base ok v xs :=
  Kd.R_mono (Kd.R_grown (Kd.R_bound hr) hg (fun k_ hk e_ => by
    obtain ⟨_, _, _, q, _, cells, hc⟩ := hk
    injection e_ with e_
    subst e_
    exact map_ne_blk h hc rfl)) (fun _ hk => hk.1)
theorem plainElem_bool_inv {H : Type} {P : Program} {e : TypeId} (he : P.underlying e = some .bool) {v : Value} {z : DataW H × List MemPlace} (h : plainElem P e v = some z) : ∃ b, v = .bool b ∧ z = (.lit (.bool b), []) := by
  unfold plainElem at h
  rw [he] at h
  cases v <;> simp at h
  exact ⟨_, rfl, h.symm⟩
/-- 'm[k]' at elements that are bools. -/
theorem wpList_lookup_own_bool {H : Type} {P : Program} (w : World) {ops : Array Oper} {rest : List Oper} {o : Oper} {a : Act} {Q : Exit → Act → World → Prop}
    (hg : o.guard = none) (m x : Operand) (t : TypeId) (hop : o.op = Op.lookup t m x false)
    (k e : TypeId) (K : Keyed P k) (ht : P.underlying t = some (.map k e)) (he : P.underlying e = some .bool) (hz : (zeroValue e).run P w = .ok (.bool false) w) (b n : Nat) (D : DataW H)
    (hm : a.eval m = .map (some b)) (hown : w.ownsMap P k (plainElem P e) b n D) (key : Value) (kl : Lit) (hx : a.eval x = key) (hkey : keyOf P k key = some kl) (c : Bool) (hat : D.atKey kl (.lit (.bool false)) = .lit (.bool c))
    (hK : wpList P ops Q rest (a.put o.dst (.bool c)) w) :
    wpList P ops Q (o :: rest) a w := by
  refine wpList_plain hg fun K' hK' => ?_
  obtain ⟨v, ps, hrun, hv⟩ := hown.lookup K ht hz (plainElem_bool he false) hkey
  obtain ⟨c', rfl, hc⟩ := plainElem_bool_inv he hv
  have hc2 : c' = c := by
    have h1 := congrArg Prod.fst hc
    rw [hat] at h1
    injection h1 with h1
    injection h1 with h1
    exact h1.symm
  subst hc2
  unfold Oper.wp
  simp [execOp, hop, hm, hx, hrun, Result.andThen]
  exact hK' _ _ hK
/-- What a map of what has been seen says. -/
def Seen (D : DataW Unit) (l : List Int) : Prop := ∀ x : Int, D.atKey (.int .i64 x) (.lit (.bool false)) = .lit (.bool (l.contains x))
theorem Seen.none : Seen (.map []) [] := fun x => by simp [DataW.atKey]
theorem Seen.step {D : DataW Unit} {l : List Int} {x : Int} (hD : Maps.IsMap D) (h : Seen D l) : Seen (D.put (.int .i64 x) (.lit (.bool true))) (l ++ [x]) := by
  intro y
  by_cases e : y = x
  · subst e
    rw [atKey_put_same hD (k := .int .i64 y) trivial]; simp
  · have hne : (Lit.int .i64 y) ≠ Lit.int .i64 x := fun e' => e (by injection e')
    rw [atKey_put_other hne, h y]
    simp [e]
/-- The text of a Gauss code: each chord's sign and head behind its first place. -/
def gtN (h s : List Int) (pre : List Int) (x : Int) : List Int := (97 + x) % 256 :: (if pre.contains x = true then [] else [if rd s x < 0 then 45 else 43, if rd h x = 1 then 111 else 117])
def gtF (w h s : List Int) : Nat → List Int
  | 0 => []
  | k + 1 => gtF w h s k ++ gtN h s (w.take k) (rd w k)
theorem gtF_length (w h s : List Int) : ∀ k, (gtF w h s k).length ≤ 3 * k
  | 0 => Nat.le_refl _
  | k + 1 => by
    have := gtF_length w h s k
    unfold gtF gtN
    rw [List.length_append, List.length_cons]
    split <;> simp <;> omega
end Go.Proofs.Ytpfhbdpmafcnfaa.Plain
