-- The row of a law over whole numbers, slices and sums. By rowgen.py of the session.
import Derived.Test.YtpfhbdpmafcnfaaRows
import Derived.Test.YtpfhbdpmafcnfaaTOrder
import Derived.Test.YtpfhbdpmafcnfaaTGlCircleSum
import Derived.Test.YtpfhbdpmafcnfaaTPureFnExactCircleSum
import Derived.WalkKit
import Derived.ProofKit
import Derived.OpenShut
import Derived.ShutString
import Derived.ChangeOld
import Derived.Below
import Derived.SizedLaws
import Derived.Lib.SmallJoins
import Derived.Deep.Slices
import Derived.Test.YtpfhbdpmafcnfaaTW
namespace Go.Proofs.Ytpfhbdpmafcnfaa.fnExactCircleSum
open Go.ChangeShapes Go.WideShapes Go.ChangeAt Go.RowKit
open Go.Proofs.YtpfhbdpmafcnfaaW.PrintWords Go.Proofs.YtpfhbdpmafcnfaaW.PrintLast Go.Proofs.YtpfhbdpmafcnfaaW.PrintMore
set_option linter.unusedVariables false
theorem own : ownKnob Try.prog.godebug = none := by kernel_rfl
theorem laidOut : laidOutB Try.prog = true := by kernel_rfl
def IsRow (k : IntKind) (w : World) (a : Option Addr) (len cap : Nat) (zs : List Int) : Prop :=
  (a = none ∧ len = 0 ∧ cap = 0 ∧ zs = []) ∨
  ∃ x, a = some x ∧ len ≤ cap ∧ cap ≤ maxLen ∧ zs.length = cap ∧ (∀ i, i < zs.length → w.cell? (x.add i) = some (.int k (zs.getD i 0))) ∧ ∀ n ∈ zs, (Lit.int k n).wf = true
def Good (x : G.S110) : Prop := x.f0.length ≤ maxLen ∧ (∀ n ∈ x.f0, (Lit.int .i64 n).wf = true) ∧ (Lit.int .i64 x.f1).wf = true
theorem pick {α : Type} {p : Nat → α → Prop} : ∀ n, (∀ i, i < n → ∃ x, p i x) → ∃ xs : List α, xs.length = n ∧ ∀ j x, xs[j]? = some x → p j x
  | 0, _ => ⟨[], rfl, fun j x h => by simp at h⟩
  | n + 1, h => by
    obtain ⟨xs, hl, hx⟩ := pick n (fun i hi => h i (by omega))
    obtain ⟨y, hy⟩ := h n (by omega)
    refine ⟨xs ++ [y], by simp [hl], fun j x hj => ?_⟩
    by_cases e : j < xs.length
    · rw [List.getElem?_append_left e] at hj
      exact hx j x hj
    · rw [List.getElem?_append_right (by omega)] at hj
      obtain ⟨e1, e2⟩ := List.getElem?_eq_some_iff.1 hj
      have e3 : j = n := by simp at e1; omega
      subst e3
      have : y = x := by simpa using e2
      exact this ▸ hy
theorem list2 {α : Type} {cs : List α} (h : cs.length = 2) : ∃ c0 c1, cs = [c0, c1] := by
  match cs, h with
  | [c0, c1], _ => exact ⟨c0, c1, rfl⟩
theorem add_add (a : Addr) (i j : Nat) : (a.add i).add j = a.add (i + j) := by
  unfold Addr.add
  by_cases hi : i = 0
  · subst hi; simp
  · by_cases hj : j = 0
    · subst hj; simp
    · simp [hi, hj, Nat.add_assoc]
section
variable {H : Type} {enc : TypeId × Value → H} {W : World}
theorem term {fuel : Nat} {cs : List Value} {x : DataW H × List MemPlace} (h : DataW.trod enc Try.prog W 0 (fun _ => true) true fuel 110 cs = some x) : ∃ y : G.S110, G.k110.K W y cs ∧ Good y := by
  obtain ⟨y0, y1, m, _, hl, h0, h1⟩ := trod_struct2 Try.underlying110 h
  have hl2 : cs.length = 2 := hl.trans (by kernel_rfl)
  obtain ⟨c0, c1, rfl⟩ := list2 hl2
  · have hcA : Try.prog.cellsOf 22 = 1 := by kernel_rfl
    have hcB : Try.prog.cellsOf 2 = 1 := by kernel_rfl
    rw [hcA] at h0
    rw [hcB] at h1
    have h0' : DataW.trod enc Try.prog W 0 (fun _ => true) true m 22 [c0] = some y0 := h0
    have h1' : DataW.trod enc Try.prog W 0 (fun _ => true) true m 2 [c1] = some y1 := h1
    obtain ⟨a, l, c, e0⟩ := Joins.slice_form Try.underlying22 h0'
    obtain rfl : c0 = .slice a l c := by simpa using e0
    obtain ⟨v, e1, _, wv⟩ := DataW.trod_int Try.underlying2 h1'
    obtain rfl : c1 = .int .i64 v := by simpa using e1
    obtain ⟨z, wz⟩ : ∃ zs, IsRow .i64 W a l c zs := by
      rcases open_ints Try.underlying22 Try.underlying2 (by kernel_rfl) h0' with ⟨hcs, _⟩ | ⟨x, l, c, zs, hcs, _, hl, hm, hz, _, hcell, hwz⟩
      · simp at hcs
        obtain ⟨rfl, rfl, rfl⟩ := hcs
        exact ⟨[], .inl ⟨rfl, rfl, rfl, rfl⟩⟩
      · simp at hcs
        obtain ⟨rfl, rfl, rfl⟩ := hcs
        exact ⟨zs, .inr ⟨_, rfl, hl, hm, by simpa using hz, hcell, hwz⟩⟩
    obtain ⟨l0, rfl, hr, hm, hw, hc⟩ := ReadsInt.ofRowC wz
    exact ⟨⟨l0, v⟩, G.k110_mk W ⟨l0, v⟩ hc (Kd.C_of_reads (d := (0 : Int)) (h1 := fun _ => rfl) hr), hm, hw, wv⟩
theorem terms {fuel : Nat} {c1 : Value} {x : DataW H × List MemPlace} (h : DataW.trod enc Try.prog W 0 (fun _ => true) true fuel 42 [c1] = some x) :
    ∃ A c, ∃ xs : List G.S110, c1 = .slice A xs.length c ∧ xs.length ≤ c ∧ Kd.C G.k110 W A xs.length xs ∧ ∀ y ∈ xs, Good y := by
  rcases Deep.open_slice Try.underlying42 h with ⟨hcs, _⟩ | ⟨a, len, cap, m, n, D, Pl, hcs, _, hl, hm, hmm, _, hel⟩
  · obtain rfl : c1 = .slice none 0 0 := by simpa using hcs
    exact ⟨none, 0, [], rfl, Nat.le_refl _, ⟨rfl, by simp, fun h => absurd h (by simp)⟩, fun y hy => by simp at hy⟩
  · obtain rfl : c1 = .slice (some a) len cap := by simpa using hcs
    have hc2 : Try.prog.cellsOf 110 = 2 := by kernel_rfl
    have hm2 : m = cap := by simpa using hmm
    obtain ⟨xs, hxl, hx⟩ := pick (p := fun i (y : G.S110) => (∃ cs : List Value, cs.length = 2 ∧ G.k110.K W y cs ∧ ∀ j u, cs[j]? = some u → W.cell? (a.add (i * 2 + j)) = some u) ∧ Good y) len (fun i hi => by
      obtain ⟨cs, hcells, ht⟩ := hel i (by omega)
      rw [hc2] at hcells
      obtain ⟨y, hy, hg⟩ := term ht
      obtain ⟨_, hlen, hcell⟩ := World.cells?_some hcells
      refine ⟨y, ⟨cs, hlen, hy, fun j u hj => ?_⟩, hg⟩
      obtain ⟨hj1, hj2⟩ := List.getElem?_eq_some_iff.1 hj
      have := hcell j (by omega)
      rw [hj] at this
      rw [← add_add]
      exact this)
    subst hxl
    refine ⟨some a, cap, xs, rfl, hl, ⟨rfl, ?_, fun _ => ⟨a, rfl, fun j p hj => ?_⟩⟩, fun y hy => ?_⟩
    · have h9 : maxLen = 9223372036854775807 := rfl
      omega
    · obtain ⟨⟨cs, h1, h2, h3⟩, _⟩ := hx j p hj
      exact ⟨cs, h1, h2, h3⟩
    · obtain ⟨j, hj⟩ := List.getElem?_of_mem hy
      exact (hx j y hj).2
end
set_option maxRecDepth 100000 in
theorem lifted (os : Os) (started : os.Started) (H : Type) (enc : TypeId × Value → H) :
    ReturnsInHanded {} Try.checked os 15 .any (Rows.fnExactCircleSumSpec.pre6 enc Try.prog Try.f15 Rows.fnExactCircleSumRow.domain false) (Rows.fnExactCircleSumSpec.post enc Try.prog Try.f15 false true false false) := by
  refine returnsInHanded_of_change_sized (C := Try.checked) own started (by kernel_rfl) Try.func15
    (ChangeSpec.witness6 (enc := enc) (C := Try.checked) false ⟨#[], #[.agg #[.int .i64 0, .slice none 0 0]], []⟩ 8 (by kernel_rfl) (by kernel_rfl) (by kernel_rfl) (by kernel_rfl)) ?_
  intro W base args ds gs before hval0 hW hcnd hsz0 _
  have hval : ∀ (j : Nat) t v, Try.f15.params[j]? = some t → args[j]? = some v → Value.okWide Try.prog W .any base t v := hval0
  have hW' := hW
  obtain ⟨p, q, hA0, hV, rfl, hfz, hnd⟩ := hW
  have hA : DataW.TrodAll enc Try.prog W 0 (fun _ => true) true Try.f15.params.toList args.toList ds p := hA0
  rw [Try.params15] at hA hval
  obtain ⟨v0, vs0, d0, ds0, p0, q0, hargs, rfl, rfl, h0, r0⟩ := trodAll_cons hA
  obtain ⟨rfl, rfl, rfl⟩ := trodAll_nil r0
  obtain rfl : args = #[v0] := by cases args; simp_all
  obtain ⟨rfl, rfl⟩ := trodVars_none hV
  have k0 := h0
  have lt0 : ∀ x ∈ p0, x.block < W.heap.size := by obtain ⟨m, hm⟩ := k0; exact DataW.trod_lt m _ _ _ hm
  obtain ⟨c0_0, c1_0, y0_0, y1_0, m_0, rfl, rfl, rfl, hy0_0, hy1_0⟩ := Joins.open_agg2 Try.underlying44 (by kernel_rfl) (by kernel_rfl) (hval 0 44 v0 rfl rfl) h0
  obtain ⟨z0, e0_0, _, wa0⟩ := DataW.trod_int Try.underlying2 hy0_0
  obtain rfl : c0_0 = .int .i64 z0 := by simpa using e0_0
  obtain ⟨A0, c0, xs0, rfl, hc0, hr0, hg0⟩ := terms hy1_0
  clear hA0 hval0 hsz0
  refine (G.laws_FnExactCircleSum.walk Pure.FnExactCircleSum A0 c0 z0 xs0 W hr0 hc0 wa0 hg0).mono fun e W' ⟨he, bel⟩ => ?_
  subst he
  exact ⟨_, rfl, _, _, _, [], _, [], hW', trodAll_mk1 (shut_bool Try.underlying4 _), (trodAll_cons_mk (Below.trod laidOut (by kernel_rfl) (of_decide_eq_true (by kernel_rfl)) k0 bel lt0) trodAll_mk0), rfl, bel.frame _, fun h => by cases h⟩
theorem closed : joinedFacts Try.prog 15 Try.f15 Rows.fnExactCircleSumSpec Rows.fnExactCircleSumRow = true := by
  unfold joinedFacts
  rw [Order.mayEnter, Order.liftsFinal, Order.make]
  kernel_rfl
theorem over : Rows.fnExactCircleSumRow.holds Try.pinned (OpenSpec.ofChange Rows.fnExactCircleSumSpec) :=
  OpenClaim.holds_of_wide 15 Try.f15 rfl rfl rfl rfl rfl rfl rfl ⟨rfl, rfl, rfl, rfl, rfl⟩ rfl rfl rfl rfl rfl (by kernel_rfl) Try.func15 closed
    (of_decide_eq_true (by kernel_rfl)) (by unfold Func.isWrapper; first | (rw [if_pos (by decide +kernel)]; kernel_rfl) | (rw [if_neg (by decide +kernel)]; exact ⟨rfl, rfl⟩))
    (fun os started H enc _ => lifted os started H enc)
theorem proved : Rows.FnExactCircleSumSaid := over
#print axioms proved
end Go.Proofs.Ytpfhbdpmafcnfaa.fnExactCircleSum
namespace Go.Proofs.Ytpfhbdpmafcnfaa
theorem fnExactCircleSum_holds : Rows.FnExactCircleSumSaid := fnExactCircleSum.proved
end Go.Proofs.Ytpfhbdpmafcnfaa
