/-
  Plain lemmas on the builtin 'copy' of whole numbers into a row of one's own. No program in sight.
-/
import Derived.Test.YtpfhbdpmafcnfaaPlainF
import Derived.Laws.CopyRow
import Derived.Laws.CopyOwn
import Derived.Laws.IdiomCopy
namespace Go.Proofs.Ytpfhbdpmafcnfaa.Plain
open Go.RowKit Go.Maps Go.Proofs.YtpfhbdpmafcnfaaW.PrintWords Go.Proofs.YtpfhbdpmafcnfaaW.PrintLast Go.Proofs.YtpfhbdpmafcnfaaW.PrintMore
set_option linter.unusedVariables false
set_option linter.unusedSimpArgs false
/-- The operation 'copy(d, s)' for the walk, where its run is known. -/
theorem wpList_copy {P : Program} {w : World} {ops : Array Oper} {rest : List Oper} {o : Oper} {a : Act} {Q : Exit → Act → World → Prop} (hgd : o.guard = none) (d s : Operand) (t t' : TypeId)
    (ho : o.op = .call { callee := .builtin .copy, args := #[d, s], argTypes := #[t, t'] }) (v u : Value) (hd : a.eval d = v) (hs : a.eval s = u) {v' : Value} {w' : World}
    (hr : (Builtin.copy_ #[t, t'] o.type #[v, u]).run P w = .ok v' w') (h : wpList P ops Q rest (a.put o.dst v') w') : wpList P ops Q (o :: rest) a w := by
  refine wpList_plain hgd fun K hK => ?_
  unfold Oper.wp
  simp [execOp, ho, resolve, invoke, builtin, hd, hs, hr, Result.andThen]
  exact hK _ _ h
/-- 'copy(v, xs)': the row's first elements are xs; the rest stays. -/
theorem R_copy {P : Program} {dT sT ty e : TypeId} (hu : P.underlying dT = some (.slice e)) (hs : (P.info? e).map (·.size) = some 1) {base : Nat} {ok : Nat → Prop} {W w0 : World} {v : Value} {L xs : List Int}
    (h : (Kd.int .i64).R e W base ok v L) {A : Option Addr} {c : Nat} (hc : Kd.C (Kd.int .i64) W A xs.length xs) (hl : xs.length ≤ L.length) {b0 : Nat} (hb : Below b0 w0 W) (hb0 : b0 ≤ base) :
    ∃ W', (Builtin.copy_ #[dT, sT] ty #[v, .slice A xs.length c]).run P W = .ok (goInt xs.length) W' ∧ (Kd.int .i64).R e W' base ok v (xs ++ L.drop xs.length) ∧ Below b0 w0 W' := by
  have ho := Kd.own_of_R h
  rcases ho.2 with ⟨rfl, h0⟩ | ⟨g, cap, cur, rfl, hg, hh, hn, hcm, hcs, ht⟩
  · obtain rfl : xs = [] := List.eq_nil_of_length_eq_zero (by omega)
    exact ⟨W, run_copy_none W dT sT ty e _ _ _ _ _ _ hu hs (by simp), by simpa using h, hb⟩
  · by_cases hx : xs.length = 0
    · obtain rfl : xs = [] := List.eq_nil_of_length_eq_zero hx
      exact ⟨W, run_copy_none W dT sT ty e _ _ _ _ _ _ hu hs (by simp), by simpa using h, hb⟩
    · obtain ⟨a, rfl, _⟩ := Kd.at_int hc 0 (by omega) (by omega)
      have hsrc : ∀ (j : Nat) (u : Value), (encs (Value.int .i64) xs)[j]? = some u → W.cell? (a.add j) = some u := by
        intro j u hj
        obtain ⟨hlj, hu2⟩ := List.getElem?_eq_some_iff.1 hj
        have hlj2 : j < xs.length := by simpa [encs] using hlj
        obtain ⟨a2, e2, hc2⟩ := Kd.at_int hc (j : Int) (by omega) (by omega)
        cases e2
        rw [Int.toNat_natCast] at hc2
        rw [hc2, ← hu2]
        simp [encs, rd, List.getD_eq_getElem?_getD, List.getElem?_eq_getElem hlj2]
      have hlen : (encs (Value.int .i64) xs).length = xs.length := by simp [encs]
      have hcs1 : cur.size = cap := by simpa using hcs
      have ht1 : cur.toList.take L.length = encs (Value.int .i64) L := by simpa using ht
      have hrun := run_copy_row (P := P) W dT sT ty e g 0 L.length cap a xs.length c cur e (encs (Value.int .i64) xs) hu hs hh (by rw [hlen]; exact (Nat.min_eq_left hl).symm) hsrc (by omega) (by intro u hu3; simp [encs] at hu3; obtain ⟨z, _, rfl⟩ := hu3; rfl)
      rw [hlen] at hrun
      refine ⟨_, hrun, ?_, below_setRow hb (by omega) _⟩
      have hnew : (xs ++ L.drop xs.length).length = L.length := by simp; omega
      refine Kd.R_of_own ?_ h.1
      refine ⟨by simp [encs], .inr ⟨g, cap, _, by rw [hnew], hg, setRow_heap W g _ _ e _ hh, by omega, hcm, ?_, ?_⟩⟩
      · simp [hlen]; omega
      · rw [hnew, Nat.mul_one, List.take_zero, List.nil_append, Nat.zero_add]
        simp only [encs, List.map_append, List.map_drop]
        rw [← encs, ← encs, ← ht1]
        rw [List.take_append, hlen, List.take_of_length_le (by omega), List.drop_take]
end Go.Proofs.Ytpfhbdpmafcnfaa.Plain
