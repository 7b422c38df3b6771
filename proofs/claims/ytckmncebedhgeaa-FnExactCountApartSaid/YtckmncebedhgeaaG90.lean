-- Written by the session's program mk.py (which runs the kit's print.py over functions and over contracts given by hand).
import Derived.Test.YtckmncebedhgeaaG0
import Derived.Test.YtckmncebedhgeaaG91
import Derived.Test.YtckmncebedhgeaaG94
import Derived.Test.YtckmncebedhgeaaGgK
import Derived.Test.YtckmncebedhgeaaPlainF
namespace Go.Proofs.Ytckmncebedhgeaa.G
open Go.RowKit Go.Maps Go.Proofs.YtckmncebedhgeaaW.PrintWords Go.Proofs.YtckmncebedhgeaaW.PrintLast Go.Proofs.YtckmncebedhgeaaW.PrintMore
attribute [local go_sem] max2_int min2_int max_two min_two max_three min_three max_four min_four   -- for this text's walks alone
set_option linter.unusedVariables false
set_option linter.unusedSimpArgs false

open Go.Proofs.Ytckmncebedhgeaa.Plain
/-! ### impl_CountApart_1: function 90, by hand -/
def impl_CountApart_1.q (k : Nat) (l0 : List Int) (j i : Int) : Option Bool := (impl_cross.f k l0 j i).bind fun c => if c = true then some false else (impl_nested.f k l0 j i).bind fun m => some (!m)
theorem impl_CountApart_1.q_mono (k : Nat) (l0 : List Int) (j i : Int) : LeO (impl_CountApart_1.q k l0 j i) (impl_CountApart_1.q (k + 1) l0 j i) := by
  unfold impl_CountApart_1.q
  exact LeO.bind (impl_cross.mono _ _ _ _) (fun c => LeO.ite (LeO.refl _) (LeO.bind (impl_nested.mono _ _ _ _) (fun _ => LeO.refl _)))
set_option maxHeartbeats 8000000 in
set_option maxRecDepth 100000 in
theorem impl_CountApart_1_1.calls (k : Nat) (b : Nat) (A0 : Option Addr) (c0 : Nat) (l0 : List Int) (a1 a2 : Int) (r : Bool) (w : World) (hr0 : Kd.C (Kd.int .i64) w A0 l0.length l0) (hc0 : l0.length ≤ c0) (hb : w.cell? ⟨b, 0, none⟩ = some (.slice A0 l0.length c0)) (h : impl_CountApart_1.q k l0 a1 a2 = some r) :
    Calls Try.prog 92 (#[.int .i64 a1, .int .i64 a2] ++ #[.pointer (some ⟨b, 0, none⟩)]) w fun e w' => e = .returned (.bool r) ∧ Below w.heap.size w w' := by
  have HR0 := Aside0.mk hr0
  have HC0 := Aside0.mk hc0
  clear hr0 hc0
  have H : ((impl_cross.f k l0 a1 a2).bind fun c => if c = true then some false else (impl_nested.f k l0 a1 a2).bind fun m => some (!m)) = some r := h
  clear h
  obtain ⟨t, h1, H⟩ := Option.bind_eq_some_iff.mp H
  have H1 := Aside0.mk h1
  clear h1
  show Calls Try.prog 92 #[.int .i64 a1, .int .i64 a2, .pointer (some ⟨b, 0, none⟩)] w _
  cases t with
  | true =>
    have H2 : some false = some r := H
    obtain rfl := Option.some.inj H2
    clear H H2
    go_enter Try.func92, Try.ntmps92
    go_wp2_with fail
    refine (impl_cross.calls k A0 c0 l0 a1 a2 true _ HR0.out HC0.out H1.out).mono ?_
    rintro e w1 ⟨rfl, ⟨nd, rfl⟩⟩
    go_wp2
    go_ret
    exact ⟨rfl, by repeat (first | exact Below.refl _ _ | apply pw_below_drewN)⟩
  | false =>
    have H2 : ((impl_nested.f k l0 a1 a2).bind fun m => some (!m)) = some r := H
    clear H
    obtain ⟨m, h2, h3⟩ := Option.bind_eq_some_iff.mp H2
    obtain rfl := Option.some.inj h3
    have HN := Aside0.mk h2
    clear H2 h2 h3
    go_enter Try.func92, Try.ntmps92
    go_wp2_with fail
    refine (impl_cross.calls k A0 c0 l0 a1 a2 false _ HR0.out HC0.out H1.out).mono ?_
    rintro e w1 ⟨rfl, hd⟩
    have HD := Aside0.mk (show Below w.heap.size w w1 by first | exact hd.below | exact hd)
    have hb1 := (HD.out.cell (World.block_lt_of_cell? _ _ hb)).trans hb
    clear hd
    go_wp2_with fail
    refine (impl_nested.calls k A0 c0 l0 a1 a2 m _ (Kd.C_below HR0.out HD.out) HC0.out HN.out).mono ?_
    rintro e w2 ⟨rfl, hd⟩
    have HD2 := Aside0.mk (show Below w1.heap.size w1 w2 by first | exact hd.below | exact hd)
    clear hd
    go_wp2
    go_ret
    exact ⟨rfl, below_step HD.out HD2.out⟩
def impl_CountApart_1.f (k : Nat) (l0 : List Int) : Option Int := if okP (impl_CountApart_1.q k l0) (l0.length / 2) = true ∧ l0.length ≤ 1048576 then some (outF (valP (impl_CountApart_1.q k l0)) (l0.length / 2) 0 : Int) else none
theorem impl_CountApart_1.mono : ∀ a0 k, LeO (impl_CountApart_1.f k a0) (impl_CountApart_1.f (k + 1) a0) := by
  intro a0 k r hr
  unfold impl_CountApart_1.f at hr ⊢
  by_cases hc : okP (impl_CountApart_1.q k a0) (a0.length / 2) = true ∧ a0.length ≤ 1048576
  · obtain ⟨h1, h2⟩ := okP_mono hc.1 (fun j i => impl_CountApart_1.q_mono k a0 j i)
    rw [if_pos hc] at hr
    rw [if_pos ⟨h1, hc.2⟩, ← h2]
    exact hr
  · rw [if_neg hc] at hr
    exact absurd hr (by simp)
set_option maxHeartbeats 8000000 in
set_option maxRecDepth 100000 in
theorem impl_CountApart_1.calls (k : Nat) (A0 : Option Addr) (c0 : Nat) (l0 : List Int) (r : Int) (w : World) (hr0 : Kd.C (Kd.int .i64) w A0 l0.length l0) (hc0 : l0.length ≤ c0) (h : impl_CountApart_1.f k l0 = some r) :
    Calls Try.prog 90 #[.slice A0 l0.length c0] w fun e w' => e = .returned (.int .i64 r) ∧ Below w.heap.size w w' := by
  unfold impl_CountApart_1.f at h
  by_cases hc : okP (impl_CountApart_1.q k l0) (l0.length / 2) = true ∧ l0.length ≤ 1048576
  · rw [if_pos hc] at h
    obtain rfl := Option.some.inj h
    clear h
    have HOK := Aside0.mk hc
    have HC0 := Aside0.mk hc0
    have hmf : ∀ (fn : Fn) (first cap : Array Value) (w : World), (Instr.makeFunc fn first cap).run Try.prog w = .ok (.func fn first cap) w := fun _ _ _ _ => rfl
    have HB := Aside0.mk (below_alloc (Below.refl w.heap.size w) (.cells #[.slice A0 l0.length c0] 28))
    have HX := Aside0.mk (show (w.alloc (.cells #[.slice A0 l0.length c0] 28)).cell? ⟨w.heap.size, 0, none⟩ = some (.slice A0 l0.length c0) by rw [World.cell?_alloc_at _ _ _ _ rfl]; rfl)
    have HR1 := Aside0.mk (Kd.C_alloc hr0 (.cells #[.slice A0 l0.length c0] 28))
    have HSZ := Aside0.mk (show w.heap.size ≤ (w.alloc (.cells #[.slice A0 l0.length c0] 28)).heap.size by simp)
    clear hc hc0 hr0
    have hcx := HX.out
    go_enter Try.func90, Try.ntmps90
    go_wp2_with fail
    generalize hw1 : w.alloc (.cells #[.slice A0 l0.length c0] 28) = w1 at HB HX HR1 HSZ hcx ⊢
    clear hw1 hcx
    refine (impl_pairs.calls 92 Try.f92 Try.func92 (by kernel_rfl) rfl #[.pointer (some ⟨w.heap.size, 0, none⟩)] (valP (impl_CountApart_1.q k l0)) A0 c0 l0 w1 HR1.out HC0.out HOK.out.2 (l0.length / 2) rfl ?_).mono ?_
    · intro j i w' hj hi hbw
      exact impl_CountApart_1_1.calls k w.heap.size A0 c0 l0 j i _ w' (Kd.C_below HR1.out hbw) HC0.out ((hbw.cell (World.block_lt_of_cell? _ _ HX.out)).trans HX.out) (okP_at HOK.out.1 hj hi)
    · rintro e w2 ⟨rfl, hb2⟩
      have HB2 := Aside0.mk (below_then HB.out HSZ.out hb2)
      clear hb2
      go_wp2
      go_ret
      exact ⟨rfl, HB2.out⟩
  · rw [if_neg hc] at h
    exact absurd h (by simp)

end Go.Proofs.Ytckmncebedhgeaa.G
