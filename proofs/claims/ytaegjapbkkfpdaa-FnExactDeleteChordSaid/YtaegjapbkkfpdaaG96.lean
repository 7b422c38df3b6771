-- Written by the session's program mk.py (which runs the kit's print.py over functions and over contracts given by hand).
import Derived.Test.YtaegjapbkkfpdaaG0
import Derived.Test.YtaegjapbkkfpdaaG100
import Derived.Test.YtaegjapbkkfpdaaPlainA
namespace Go.Proofs.Ytaegjapbkkfpdaa.G
open Go.RowKit Go.Maps Go.Proofs.YtaegjapbkkfpdaaW.PrintWords Go.Proofs.YtaegjapbkkfpdaaW.PrintLast Go.Proofs.YtaegjapbkkfpdaaW.PrintMore
attribute [local go_sem] max2_int min2_int max_two min_two max_three min_three max_four min_four   -- for this text's walks alone
set_option linter.unusedVariables false
set_option linter.unusedSimpArgs false

open Go.Proofs.Ytaegjapbkkfpdaa.Plain
/-! ### impl_without: function 96, by hand -/
def impl_without.f (l0 : List Int) (a1 : Int) : Option (List Int) := if wfB l0 = true ∧ l0.length ≤ 1048576 then some (normalL (l0.filter fun x => x != a1)) else none
set_option maxHeartbeats 8000000 in
set_option maxRecDepth 100000 in
theorem impl_without_1.calls (b : Nat) (a1 x : Int) (w : World) (hb : w.cell? ⟨b, 0, none⟩ = some (.int .i64 a1)) :
    Calls Try.prog 116 (#[.int .i64 x] ++ #[.pointer (some ⟨b, 0, none⟩)]) w fun e w' => e = .returned (.bool (x != a1)) ∧ Below w.heap.size w w' := by
  show Calls Try.prog 116 #[.int .i64 x, .pointer (some ⟨b, 0, none⟩)] w _
  go_enter Try.func116, Try.ntmps116
  go_wp2
  go_ret
  exact ⟨by first | rfl | simp, Below.refl _ _⟩
set_option maxHeartbeats 8000000 in
set_option maxRecDepth 100000 in
theorem impl_without.calls (A0 : Option Addr) (c0 : Nat) (l0 : List Int) (a1 : Int) (r : List Int) (w : World) (hr0 : Kd.C (Kd.int .i64) w A0 l0.length l0) (hc0 : l0.length ≤ c0) (h : impl_without.f l0 a1 = some r) :
    Calls Try.prog 96 #[.slice A0 l0.length c0, .int .i64 a1] w fun e w' => ∃ v0_ : Value, e = .returned (v0_) ∧ Kd.R (Kd.int .i64) 2 w' w.heap.size (fun _ => True) v0_ r ∧ Below w.heap.size w w' := by
  unfold impl_without.f at h
  by_cases hwf : wfB l0 = true ∧ l0.length ≤ 1048576
  · rw [if_pos hwf] at h
    obtain rfl := Option.some.inj h
    clear h
    have hmf : ∀ (fn : Fn) (first cap : Array Value) (w : World), (Instr.makeFunc fn first cap).run Try.prog w = .ok (.func fn first cap) w := fun _ _ _ _ => rfl
    have HWF := Aside0.mk hwf
    have HC0 := Aside0.mk hc0
    have HB := Aside0.mk (below_alloc (Below.refl w.heap.size w) (.cells #[.int .i64 a1] 2))
    have HX := Aside0.mk (show (w.alloc (.cells #[.int .i64 a1] 2)).cell? ⟨w.heap.size, 0, none⟩ = some (.int .i64 a1) by rw [World.cell?_alloc_at _ _ _ _ rfl]; rfl)
    have HR1 := Aside0.mk (Kd.C_alloc hr0 (.cells #[.int .i64 a1] 2))
    have HSZ := Aside0.mk (show w.heap.size ≤ (w.alloc (.cells #[.int .i64 a1] 2)).heap.size by simp)
    clear hwf hc0 hr0
    go_enter Try.func96, Try.ntmps96
    go_wp2_with fail
    generalize hw1 : w.alloc (.cells #[.int .i64 a1] 2) = w1 at HB HX HR1 HSZ ⊢
    clear hw1
    refine (impl_wordOf.calls 116 Try.f116 Try.func116 (by kernel_rfl) rfl #[.pointer (some ⟨w.heap.size, 0, none⟩)] (fun x => x != a1) _ _ l0 w1 HR1.out HC0.out HWF.out.2 HWF.out.1 ?_).mono ?_
    · intro x w' hx hbw
      exact impl_without_1.calls w.heap.size a1 x w' ((hbw.cell (World.block_lt_of_cell? _ _ HX.out)).trans HX.out)
    · rintro e w2 ⟨v2, rfl, ho2, hb2⟩
      have HB2 := Aside0.mk (below_then HB.out HSZ.out hb2)
      have HO2 := Aside0.mk (Kd.R_lower ho2 HSZ.out)
      clear ho2 hb2
      go_wp2
      go_ret
      exact ⟨_, rfl, HO2.out, HB2.out⟩
  · rw [if_neg hwf] at h
    cases h

end Go.Proofs.Ytaegjapbkkfpdaa.G
