-- The row of a law over one Sum. By sumrow.py of the session.
import Derived.Test.YtflpdjmdkdgijaaDoorRows
import Derived.Test.YtflpdjmdkdgijaaDoorTOrder
import Derived.Test.YtflpdjmdkdgijaaDoorTGlSumText
import Derived.Test.YtflpdjmdkdgijaaDoorTPureFnExactSumText
import Derived.WalkKit
import Derived.ProofKit
import Derived.OpenShut
import Derived.ShutString
import Derived.ChangeOld
import Derived.Below
import Derived.SizedLaws
import Derived.LaidMore
import Derived.Stop.Joined
import Derived.SevenTiedAt
import Derived.Test.YtflpdjmdkdgijaaDoorCards
import Derived.Test.YtflpdjmdkdgijaaDoorTie
import Derived.Lib.SmallJoins
import Derived.Deep.Slices
import Derived.Test.YtflpdjmdkdgijaaDoorTW
namespace Go.Proofs.YtflpdjmdkdgijaaDoor.fnExactSumText
open Go.ChangeShapes Go.WideShapes Go.ChangeAt Go.RowKit
open Go.Proofs.YtflpdjmdkdgijaaDoorW.PrintWords Go.Proofs.YtflpdjmdkdgijaaDoorW.PrintLast Go.Proofs.YtflpdjmdkdgijaaDoorW.PrintMore
set_option linter.unusedVariables false
theorem own : ownKnob Tryd.prog.godebug = none := by kernel_rfl
theorem laidOut : laidOutB Tryd.prog = true := by kernel_rfl
def IsRow (k : IntKind) (w : World) (a : Option Addr) (len cap : Nat) (zs : List Int) : Prop :=
  (a = none ∧ len = 0 ∧ cap = 0 ∧ zs = []) ∨
  ∃ x, a = some x ∧ len ≤ cap ∧ cap ≤ maxLen ∧ zs.length = cap ∧ (∀ i, i < zs.length → w.cell? (x.add i) = some (.int k (zs.getD i 0))) ∧ ∀ n ∈ zs, (Lit.int k n).wf = true
def Good (x : G.S42) : Prop := x.f0.length ≤ maxLen ∧ (∀ n ∈ x.f0, (Lit.int .i64 n).wf = true) ∧ (Lit.int .i64 x.f1).wf = true
theorem pick {α : Type} {p : Nat → α → Prop} : ∀ n, (∀ i, i < n → ∃ x, p i x) → ∃ xs : List α, xs.length = n ∧ ∀ j x, xs[j]? = some x → p j x
  | 0, _ => ⟨[], rfl, fun j x h => by simp at h⟩
  | n + 1, h => by
    obtain ⟨xs, hl, hx⟩ := pick n (fun i hi => h i (by omega))
    obtain ⟨y, hy⟩ := h n (by omega)
    refine ⟨xs ++ [y], by simp [hl], fun j x hj => ?_⟩
    by_cases e : j < xs.length
    · rw [List.getElem?_append_left e] at hj
      exact hx j x hj
    · rw [List.getElem?_append_right (by omega)] at hj
      obtain ⟨e1, e2⟩ := List.getElem?_eq_some_iff.1 hj
      have e3 : j = n := by simp at e1; omega
      subst e3
      have : y = x := by simpa using e2
      exact this ▸ hy
theorem list2 {α : Type} {cs : List α} (h : cs.length = 2) : ∃ c0 c1, cs = [c0, c1] := by
  match cs, h with
  | [c0, c1], _ => exact ⟨c0, c1, rfl⟩
theorem add_add (a : Addr) (i j : Nat) : (a.add i).add j = a.add (i + j) := by
  unfold Addr.add
  by_cases hi : i = 0
  · subst hi; simp
  · by_cases hj : j = 0
    · subst hj; simp
    · simp [hi, hj, Nat.add_assoc]
section
variable {H : Type} {enc : TypeId × Value → H} {W : World}
theorem term {fuel : Nat} {cs : List Value} {x : DataW H × List MemPlace} (h : DataW.trod enc Tryd.prog W 0 (fun _ => true) true fuel 42 cs = some x) : ∃ y : G.S42, G.k42.K W y cs ∧ Good y := by
  obtain ⟨y0, y1, m, _, hl, h0, h1⟩ := trod_struct2 Tryd.underlying42 h
  have hl2 : cs.length = 2 := hl.trans (by kernel_rfl)
  obtain ⟨c0, c1, rfl⟩ := list2 hl2
  · have hcA : Tryd.prog.cellsOf 40 = 1 := by kernel_rfl
    have hcB : Tryd.prog.cellsOf 2 = 1 := by kernel_rfl
    rw [hcA] at h0
    rw [hcB] at h1
    have h0' : DataW.trod enc Tryd.prog W 0 (fun _ => true) true m 40 [c0] = some y0 := h0
    have h1' : DataW.trod enc Tryd.prog W 0 (fun _ => true) true m 2 [c1] = some y1 := h1
    obtain ⟨a, l, c, e0⟩ := Joins.slice_form Tryd.underlying40 h0'
    obtain rfl : c0 = .slice a l c := by simpa using e0
    obtain ⟨v, e1, _, wv⟩ := DataW.trod_int Tryd.underlying2 h1'
    obtain rfl : c1 = .int .i64 v := by simpa using e1
    obtain ⟨z, wz⟩ : ∃ zs, IsRow .i64 W a l c zs := by
      rcases open_ints Tryd.underlying40 Tryd.underlying2 (by kernel_rfl) h0' with ⟨hcs, _⟩ | ⟨x, l, c, zs, hcs, _, hl, hm, hz, _, hcell, hwz⟩
      · simp at hcs
        obtain ⟨rfl, rfl, rfl⟩ := hcs
        exact ⟨[], .inl ⟨rfl, rfl, rfl, rfl⟩⟩
      · simp at hcs
        obtain ⟨rfl, rfl, rfl⟩ := hcs
        exact ⟨zs, .inr ⟨_, rfl, hl, hm, by simpa using hz, hcell, hwz⟩⟩
    obtain ⟨l0, rfl, hr, hm, hw, hc⟩ := ReadsInt.ofRowC wz
    exact ⟨⟨l0, v⟩, G.k42_mk W ⟨l0, v⟩ hc (Kd.C_of_reads (d := (0 : Int)) (h1 := fun _ => rfl) hr), hm, hw, wv⟩
theorem terms {fuel : Nat} {c1 : Value} {x : DataW H × List MemPlace} (h : DataW.trod enc Tryd.prog W 0 (fun _ => true) true fuel 22 [c1] = some x) :
    ∃ A c, ∃ xs : List G.S42, c1 = .slice A xs.length c ∧ xs.length ≤ c ∧ Kd.C G.k42 W A xs.length xs ∧ ∀ y ∈ xs, Good y := by
  rcases Deep.open_slice Tryd.underlying22 h with ⟨hcs, _⟩ | ⟨a, len, cap, m, n, D, Pl, hcs, _, hl, hm, hmm, _, hel⟩
  · obtain rfl : c1 = .slice none 0 0 := by simpa using hcs
    exact ⟨none, 0, [], rfl, Nat.le_refl _, ⟨rfl, by simp, fun h => absurd h (by simp)⟩, fun y hy => by simp at hy⟩
  · obtain rfl : c1 = .slice (some a) len cap := by simpa using hcs
    have hc2 : Tryd.prog.cellsOf 42 = 2 := by kernel_rfl
    have hm2 : m = cap := by simpa using hmm
    obtain ⟨xs, hxl, hx⟩ := pick (p := fun i (y : G.S42) => (∃ cs : List Value, cs.length = 2 ∧ G.k42.K W y cs ∧ ∀ j u, cs[j]? = some u → W.cell? (a.add (i * 2 + j)) = some u) ∧ Good y) len (fun i hi => by
      obtain ⟨cs, hcells, ht⟩ := hel i (by omega)
      rw [hc2] at hcells
      obtain ⟨y, hy, hg⟩ := term ht
      obtain ⟨_, hlen, hcell⟩ := World.cells?_some hcells
      refine ⟨y, ⟨cs, hlen, hy, fun j u hj => ?_⟩, hg⟩
      obtain ⟨hj1, hj2⟩ := List.getElem?_eq_some_iff.1 hj
      have := hcell j (by omega)
      rw [hj] at this
      rw [← add_add]
      exact this)
    subst hxl
    refine ⟨some a, cap, xs, rfl, hl, ⟨rfl, ?_, fun _ => ⟨a, rfl, fun j p hj => ?_⟩⟩, fun y hy => ?_⟩
    · have h9 : maxLen = 9223372036854775807 := rfl
      omega
    · obtain ⟨⟨cs, h1, h2, h3⟩, _⟩ := hx j p hj
      exact ⟨cs, h1, h2, h3⟩
    · obtain ⟨j, hj⟩ := List.getElem?_of_mem hy
      exact (hx j y hj).2
end
theorem walk (a : Int) (A : Option Addr) (c : Nat) (xs : List G.S42) (w : World) (hr : Kd.C G.k42 w A xs.length xs) (hc : xs.length ≤ c) (ha : (Lit.int .i64 a).wf = true) (hg : ∀ y ∈ xs, Good y) :
    Calls Tryd.prog 3 #[.agg #[.int .i64 a, .slice A xs.length c]] w fun e w' => e = .returned (.bool true) ∧ Below w.heap.size w w' := by
  obtain ⟨k, h⟩ := Pure.FnExactSumText a xs hr.2.1 ha hg
  refine (G.laws_FnExactSumText.calls k a _ _ xs true w hr hc h).mono ?_
  rintro e w' ⟨rfl, hd⟩
  exact ⟨rfl, hd⟩
theorem door_met (os : Os) (args : Array Value) : laidMetH Tryd.prog Rows.fnExactSumTextRow.laid ((World.doorLaid Tryd.prog 400 os).forCall (fun _ _ => 0) ⟨#[], args, []⟩).memory :=
  laidMetH_of_parts3 (fuel := 8) (laidMet_of_run' 8 (by kernel_rfl) (by kernel_rfl)) (by kernel_rfl) (by kernel_rfl)
set_option maxRecDepth 100000 in
theorem lifted (os : Os) (started : os.Started) (H : Type) (enc : TypeId × Value → H) :
    ReturnsInHanded {} Tryd.checked os 3 .any (fun w args => (Rows.fnExactSumTextSpec.pre enc Tryd.prog Tryd.f3 [] false w args ∧ laidMetH Tryd.prog Rows.fnExactSumTextRow.laid w) ∧ sizedMet enc Tryd.prog Tryd.f3 (OpenSpec.ofChange Rows.fnExactSumTextSpec) false w args)
      (Rows.fnExactSumTextSpec.post enc Tryd.prog Tryd.f3 false true false false) := by
  refine returnsInHanded_of_change_and (C := Tryd.checked) (X := fun w _ => laidMetH Tryd.prog Rows.fnExactSumTextRow.laid w) (fun _ _ _ hh h => h.of_heap hh) own started (by kernel_rfl) Tryd.func3
    (ChangeSpec.witness_shaped (enc := enc) (C := Tryd.checked) (os := os) (X := fun w _ => laidMetH Tryd.prog Rows.fnExactSumTextRow.laid w) false (World.doorLaid Tryd.prog 400 os) #[.agg #[.int .i64 0, .slice none 0 0]] 8 rfl (World.shaped_of_RefB (by kernel_rfl) (by kernel_rfl)) (by kernel_rfl) (by kernel_rfl) (by kernel_rfl) (door_met os _)) ?_
  intro W base args ds gs before hval0 hW _ _ _ _
  have hval : ∀ (j : Nat) t v, Tryd.f3.params[j]? = some t → args[j]? = some v → Value.okWide Tryd.prog W .any base t v := hval0
  have hW' := hW
  obtain ⟨p, q, hA0, hV, rfl, hfz, hnd⟩ := hW
  have hA : DataW.TrodAll enc Tryd.prog W 0 (fun _ => true) true Tryd.f3.params.toList args.toList ds p := hA0
  rw [Tryd.params3] at hA hval
  obtain ⟨v0, vs0, d0, ds0, p0, q0, hargs, rfl, rfl, h0, r0⟩ := trodAll_cons hA
  obtain ⟨rfl, rfl, rfl⟩ := trodAll_nil r0
  obtain rfl : args = #[v0] := by cases args; simp_all
  obtain ⟨rfl, rfl⟩ := trodVars_none hV
  have k0 := h0
  have lt0 : ∀ x ∈ p0, x.block < W.heap.size := by obtain ⟨m, hm⟩ := k0; exact DataW.trod_lt m _ _ _ hm
  obtain ⟨c0, c1, y0, y1, m, rfl, rfl, rfl, hy0, hy1⟩ := Joins.open_agg2 Tryd.underlying24 (by kernel_rfl) (by kernel_rfl) (hval 0 24 v0 rfl rfl) h0
  obtain ⟨a, e0, _, wa⟩ := DataW.trod_int Tryd.underlying2 hy0
  obtain rfl : c0 = .int .i64 a := by simpa using e0
  obtain ⟨A, c, xs, rfl, hc, hr, hg⟩ := terms hy1
  clear hA0 hval0
  try simp only [List.append_nil] at hW'
  refine (walk a A c xs W hr hc wa hg).mono fun e W' ⟨he, bel⟩ => ?_
  subst he
  exact ⟨_, rfl, _, _, _, [], _, [], hW', trodAll_mk1 (shut_bool Tryd.underlying4 _), (trodAll_cons_mk (Below.trod laidOut (by kernel_rfl) (of_decide_eq_true (by kernel_rfl)) k0 bel lt0) trodAll_mk0), rfl, bel.frame _, fun h => by cases h⟩
theorem closed : joinedFacts Tryd.prog 3 Tryd.f3 Rows.fnExactSumTextSpec Rows.fnExactSumTextRow = true := by
  unfold joinedFacts
  rw [Order.mayEnter, Order.liftsFinal, Order.make]
  kernel_rfl
theorem over : Rows.fnExactSumTextRow.holds Tryd.pinned (OpenSpec.ofChange Rows.fnExactSumTextSpec) :=
  OpenClaim.holds_of_wide 3 Tryd.f3 rfl rfl rfl rfl rfl rfl rfl ⟨rfl, rfl, rfl, rfl, rfl⟩ rfl rfl rfl rfl rfl (by kernel_rfl) Tryd.func3 closed
    (of_decide_eq_true (by kernel_rfl)) (by unfold Func.isWrapper; first | (rw [if_pos (by decide +kernel)]; kernel_rfl) | (rw [if_neg (by decide +kernel)]; exact ⟨rfl, rfl⟩))
    (fun os started H enc _ => lifted os started H enc)
theorem proved : Rows.FnExactSumTextSaid := over
end Go.Proofs.YtflpdjmdkdgijaaDoor.fnExactSumText
namespace Go.Proofs.YtflpdjmdkdgijaaDoor
/-- The row, under a short name, for the claim. -/
theorem fnExactSumText_holds : Rows.FnExactSumTextSaid := fnExactSumText.proved
/-- The tied card. -/
theorem fnExactSumTextCard_holds : Rows.FnExactSumTextCardSaid :=
  Claim7.holds_tied_plain_at .later [] [.data, .data, .data] true (true, "d291427b1d56e2b1dfed510761caf2ce960af1b7eaf12be51f609078a712b6be") false
    fnExactSumText_holds (fun _ h => by cases h) (by kernel_rfl) (fun _ h => by cases h) fnExactSumText_row_tie rfl ⟨rfl, rfl⟩ (by kernel_rfl) rfl
    (fun f fn hf hfn => by
      obtain rfl : f = 3 := Option.some.inj ((show Tryd.prog.funcNamed Rows.fnExactSumTextRow.func = some 3 by kernel_rfl).symm.trans hf) |>.symm
      obtain rfl : fn = Tryd.f3 := (Option.some.inj (Tryd.func3.symm.trans hfn)).symm
      exact ⟨by kernel_rfl, fun j t ht => by
        rw [Tryd.params3] at ht
        have hm : t ∈ (Tryd.f3.params).toList := by rw [Tryd.params3]; simpa using Array.mem_of_getElem? ht
        have hall : (Tryd.f3.params.toList.all fun u => !Tryd.prog.wantsStandIn u) = true := by kernel_rfl
        exact (show Tryd.prog.wantsStandIn t = false by simpa using List.all_eq_true.1 hall t hm)⟩)
    (by kernel_rfl)
end Go.Proofs.YtflpdjmdkdgijaaDoor
