-- Written by the session's program mk.py (which runs the kit's print.py over functions and over contracts given by hand).
import Derived.Test.YtflpdjmdkdgijaaG0
import Derived.Test.YtflpdjmdkdgijaaG15
import Derived.Test.YtflpdjmdkdgijaaGgF
import Derived.Test.YtflpdjmdkdgijaaGgI
import Derived.Test.YtflpdjmdkdgijaaGgO
import Derived.Test.YtflpdjmdkdgijaaGgO0
import Derived.Test.YtflpdjmdkdgijaaGgS
namespace Go.Proofs.Ytflpdjmdkdgijaa.G
open Go.RowKit Go.Maps Go.Proofs.YtflpdjmdkdgijaaW.PrintWords Go.Proofs.YtflpdjmdkdgijaaW.PrintLast Go.Proofs.YtflpdjmdkdgijaaW.PrintMore
attribute [local go_sem] max2_int min2_int max_two min_two max_three min_three max_four min_four   -- for this text's walks alone
set_option linter.unusedVariables false
set_option linter.unusedSimpArgs false

/-! ### spec_DiagramsOf: function 21 -/
def spec_DiagramsOf.f (k : Nat) (a0 : Int) : Option ((List (List Int)) × Int) := (spec_l01In.f a0 0 5).bind fun t101 => (if t101 = true then ((spec_l02Diagrams.f k a0).bind fun t102 => (some (t102, 0))) else (some (([] : List (List Int)), 2)))
theorem spec_DiagramsOf.mono : ∀ a0 k, LeO (spec_DiagramsOf.f k a0) (spec_DiagramsOf.f (k + 1) a0) := by
  intro a0 k
  unfold spec_DiagramsOf.f
  repeat' first
      | (with_reducible exact spec_l02Diagrams.mono _ _)
      | (with_reducible exact LeO.refl _)
      | (with_reducible exact LeO.none _)
      | (with_reducible refine LeO.ite ?_ ?_)
      | (with_reducible refine LeO.bind ?_ (fun _ => ?_))
      | exact spec_l02Diagrams.mono _ _
      | exact LeO.none _
      | refine LeO.ite ?_ ?_
      | refine LeO.bind ?_ (fun _ => ?_)
set_option maxHeartbeats 8000000 in
set_option maxRecDepth 100000 in
theorem spec_DiagramsOf.calls (k : Nat) (a0 : Int) (r1 : List (List Int)) (r2 : Int) (w : World) (h : spec_DiagramsOf.f k a0 = some (r1, r2)) :
    Calls Try.prog 21 #[.int .i64 a0] w fun e w' => ∃ v0_ : Value, e = .returned (.tuple #[v0_, .int .i64 r2]) ∧ Kd.N (Kd.slice 2 (Kd.int .i64)) 22 w' w.heap.size (fun k_ => (w.heap.size ≤ k_)) v0_ r1 ∧ Below w.heap.size w w' := by
  have HB := Aside0.mk (Below.refl w.heap.size w)
  have H : ((spec_l01In.f a0 0 5).bind fun t101 => (if t101 = true then ((spec_l02Diagrams.f k a0).bind fun t102 => (some (t102, 0))) else (some (([] : List (List Int)), 2)))) = some (r1, r2) := h
  clear h
  replace H := Option.bind_eq_some_iff.mp H
  obtain ⟨t101, A20, H⟩ := H
  replace H : (if t101 = true then ((spec_l02Diagrams.f k a0).bind fun t102 => (some (t102, 0))) else (some (([] : List (List Int)), 2))) = some (r1, r2) := H
  have A2 := Aside0.mk A20
  clear A20
  by_cases c3 : t101 = true
  · subst c3
    have H1 : ((spec_l02Diagrams.f k a0).bind fun t102 => (some (t102, 0))) = some (r1, r2) := by rw [if_pos rfl] at H; exact H
    clear H
    have H := H1
    clear H1
    replace H := Option.bind_eq_some_iff.mp H
    obtain ⟨t102, A40, H⟩ := H
    replace H : (some (t102, 0)) = some (r1, r2) := H
    have A4 := Aside0.mk A40
    clear A40
    simp only [Option.some.injEq, Prod.mk.injEq] at H
    obtain ⟨rfl, rfl⟩ := H
    go_enter Try.func21, Try.ntmps21
    go_wp2_with (first | ((with_reducible refine gate_callee (f := 27) rfl ?_); refine goesL_ (some 5) rfl rfl Try.func27 (by kernel_rfl) rfl #[.int .i64 a0, .int .i64 0, .int .i64 5] rfl (by (try simp only [List.map_toArray, List.map_cons, List.map_nil]); first | done | rfl | (simp only [List.length_drop, List.length_take]; rfl)) ?_; (with_reducible refine (spec_l01In.calls a0 0 5 true _ A2.out).mono ?_); rintro e w' ⟨rfl, ⟨nd, rfl⟩⟩; refine ⟨_, rfl, ?_⟩) | ((with_reducible refine gate_callee (f := 37) rfl ?_); refine goesL_ (some 8) rfl rfl Try.func37 (by kernel_rfl) rfl #[.int .i64 a0] rfl (by (try simp only [List.map_toArray, List.map_cons, List.map_nil]); first | done | rfl | (simp only [List.length_drop, List.length_take]; rfl)) ?_; (with_reducible refine (spec_l02Diagrams.calls k a0 t102 _ A4.out).mono ?_); rintro e w5 ⟨v103, rfl, ho0, hb⟩; refine ⟨_, rfl, ?_⟩; have n0_ := Aside0.mk (Kd.N_lower (Kd.N_mono (ok' := fun k_ => (w.heap.size ≤ k_)) ho0 (fun k_ hk_ => (Nat.le_trans (below_size (by repeat (first | (with_reducible first | exact HB.out | apply below_alloc | apply pw_below_drewN | apply below_drew1) | exact HB.out))) hk_))) (below_size (by repeat (first | (with_reducible first | exact HB.out | apply below_alloc | apply pw_below_drewN | apply below_drew1) | exact HB.out)))); have n1_ := Aside0.mk (below_step (by repeat (first | (with_reducible first | exact HB.out | apply below_alloc | apply pw_below_drewN | apply below_drew1) | exact HB.out)) hb); clear HB; have HO104 := n0_; have HB := n1_; clear n0_ n1_; (try clear hb); (try clear hb2); (try clear hk); (try clear hi); (try clear ho0)))
    go_ret2
    exact ⟨_, by first | rfl | (simp [errW_none, errW_some] <;> rfl) | (simp [*, errW_none, errW_some] <;> rfl), by (with_reducible repeat (first | apply Kd.N_alloc | apply Kd.N_drewN | apply Kd.N_drew)); exact HO104.out, by repeat (first | (with_reducible first | exact HB.out | apply below_alloc | apply pw_below_drewN | apply below_drew1) | exact HB.out)⟩
  · replace c3 := Bool.eq_false_iff.mpr c3
    subst c3
    have H1 : (some (([] : List (List Int)), 2)) = some (r1, r2) := by rw [if_neg (show ¬ (false = true) by decide)] at H; exact H
    clear H
    have H := H1
    clear H1
    simp only [Option.some.injEq, Prod.mk.injEq] at H
    obtain ⟨rfl, rfl⟩ := H
    go_enter Try.func21, Try.ntmps21
    go_wp2_with (first | ((with_reducible refine gate_callee (f := 27) rfl ?_); refine goesL_ (some 5) rfl rfl Try.func27 (by kernel_rfl) rfl #[.int .i64 a0, .int .i64 0, .int .i64 5] rfl (by (try simp only [List.map_toArray, List.map_cons, List.map_nil]); first | done | rfl | (simp only [List.length_drop, List.length_take]; rfl)) ?_; (with_reducible refine (spec_l01In.calls a0 0 5 false _ A2.out).mono ?_); rintro e w' ⟨rfl, ⟨nd, rfl⟩⟩; refine ⟨_, rfl, ?_⟩))
    go_ret2
    exact ⟨_, by first | rfl | (simp [errW_none, errW_some] <;> rfl) | (simp [*, errW_none, errW_some] <;> rfl), by first | exact Kd.S_nil _ _ _ _ _ | exact Kd.N_nil _ _ _ _ _ | exact Kd.V_nil _ _ _ _ _ | exact Kd.Q_nil _ _ _ _ _ | exact Kd.R_nil _ _ _ _ _, by repeat (first | (with_reducible first | exact HB.out | apply below_alloc | apply pw_below_drewN | apply below_drew1) | exact HB.out)⟩

/-! ### impl_DiagramsOf: function 22 -/
def impl_DiagramsOf.f (k : Nat) (a0 : Int) : Option ((List (List Int)) × Int) := (impl_in.f a0 0 5).bind fun t101 => (if t101 = true then ((impl_diagramsOf.f k a0).bind fun t102 => (some (t102, 0))) else (some (([] : List (List Int)), 2)))
theorem impl_DiagramsOf.mono : ∀ a0 k, LeO (impl_DiagramsOf.f k a0) (impl_DiagramsOf.f (k + 1) a0) := by
  intro a0 k
  unfold impl_DiagramsOf.f
  repeat' first
      | (with_reducible exact impl_diagramsOf.mono _ _)
      | (with_reducible exact LeO.refl _)
      | (with_reducible exact LeO.none _)
      | (with_reducible refine LeO.ite ?_ ?_)
      | (with_reducible refine LeO.bind ?_ (fun _ => ?_))
      | exact impl_diagramsOf.mono _ _
      | exact LeO.none _
      | refine LeO.ite ?_ ?_
      | refine LeO.bind ?_ (fun _ => ?_)
set_option maxHeartbeats 8000000 in
set_option maxRecDepth 100000 in
theorem impl_DiagramsOf.calls (k : Nat) (a0 : Int) (r1 : List (List Int)) (r2 : Int) (w : World) (h : impl_DiagramsOf.f k a0 = some (r1, r2)) :
    Calls Try.prog 22 #[.int .i64 a0] w fun e w' => ∃ v0_ : Value, e = .returned (.tuple #[v0_, .int .i64 r2]) ∧ Kd.S (Kd.slice 2 (Kd.int .i64)) 22 w' w.heap.size (fun _ => True) v0_ r1 ∧ Below w.heap.size w w' := by
  have HB := Aside0.mk (Below.refl w.heap.size w)
  have H : ((impl_in.f a0 0 5).bind fun t101 => (if t101 = true then ((impl_diagramsOf.f k a0).bind fun t102 => (some (t102, 0))) else (some (([] : List (List Int)), 2)))) = some (r1, r2) := h
  clear h
  replace H := Option.bind_eq_some_iff.mp H
  obtain ⟨t101, A20, H⟩ := H
  replace H : (if t101 = true then ((impl_diagramsOf.f k a0).bind fun t102 => (some (t102, 0))) else (some (([] : List (List Int)), 2))) = some (r1, r2) := H
  have A2 := Aside0.mk A20
  clear A20
  by_cases c3 : t101 = true
  · subst c3
    have H1 : ((impl_diagramsOf.f k a0).bind fun t102 => (some (t102, 0))) = some (r1, r2) := by rw [if_pos rfl] at H; exact H
    clear H
    have H := H1
    clear H1
    replace H := Option.bind_eq_some_iff.mp H
    obtain ⟨t102, A40, H⟩ := H
    replace H : (some (t102, 0)) = some (r1, r2) := H
    have A4 := Aside0.mk A40
    clear A40
    simp only [Option.some.injEq, Prod.mk.injEq] at H
    obtain ⟨rfl, rfl⟩ := H
    go_enter Try.func22, Try.ntmps22
    go_wp2_with (first | ((with_reducible refine gate_callee (f := 29) rfl ?_); refine goesL_ (some 5) rfl rfl Try.func29 (by kernel_rfl) rfl #[.int .i64 a0, .int .i64 0, .int .i64 5] rfl (by (try simp only [List.map_toArray, List.map_cons, List.map_nil]); first | done | rfl | (simp only [List.length_drop, List.length_take]; rfl)) ?_; (with_reducible refine (impl_in.calls a0 0 5 true _ A2.out).mono ?_); rintro e w' ⟨rfl, ⟨nd, rfl⟩⟩; refine ⟨_, rfl, ?_⟩) | ((with_reducible refine gate_callee (f := 38) rfl ?_); refine goesL_ (some 8) rfl rfl Try.func38 (by kernel_rfl) rfl #[.int .i64 a0] rfl (by (try simp only [List.map_toArray, List.map_cons, List.map_nil]); first | done | rfl | (simp only [List.length_drop, List.length_take]; rfl)) ?_; (with_reducible refine (impl_diagramsOf.calls k a0 t102 _ A4.out).mono ?_); rintro e w5 ⟨v103, rfl, ho0, hb⟩; refine ⟨_, rfl, ?_⟩; have n0_ := Aside0.mk (Kd.S_lower ho0 (below_size (by repeat (first | (with_reducible first | exact HB.out | apply below_alloc | apply pw_below_drewN | apply below_drew1) | exact HB.out)))); have n1_ := Aside0.mk (below_step (by repeat (first | (with_reducible first | exact HB.out | apply below_alloc | apply pw_below_drewN | apply below_drew1) | exact HB.out)) hb); clear HB; have HO104 := n0_; have HB := n1_; clear n0_ n1_; (try clear hb); (try clear hb2); (try clear hk); (try clear hi); (try clear ho0)))
    go_ret2
    exact ⟨_, by first | rfl | (simp [errW_none, errW_some] <;> rfl) | (simp [*, errW_none, errW_some] <;> rfl), by (with_reducible repeat (first | apply Kd.S_alloc | apply Kd.S_drewN | apply Kd.S_drew)); exact HO104.out, by repeat (first | (with_reducible first | exact HB.out | apply below_alloc | apply pw_below_drewN | apply below_drew1) | exact HB.out)⟩
  · replace c3 := Bool.eq_false_iff.mpr c3
    subst c3
    have H1 : (some (([] : List (List Int)), 2)) = some (r1, r2) := by rw [if_neg (show ¬ (false = true) by decide)] at H; exact H
    clear H
    have H := H1
    clear H1
    simp only [Option.some.injEq, Prod.mk.injEq] at H
    obtain ⟨rfl, rfl⟩ := H
    go_enter Try.func22, Try.ntmps22
    go_wp2_with (first | ((with_reducible refine gate_callee (f := 29) rfl ?_); refine goesL_ (some 5) rfl rfl Try.func29 (by kernel_rfl) rfl #[.int .i64 a0, .int .i64 0, .int .i64 5] rfl (by (try simp only [List.map_toArray, List.map_cons, List.map_nil]); first | done | rfl | (simp only [List.length_drop, List.length_take]; rfl)) ?_; (with_reducible refine (impl_in.calls a0 0 5 false _ A2.out).mono ?_); rintro e w' ⟨rfl, ⟨nd, rfl⟩⟩; refine ⟨_, rfl, ?_⟩))
    go_ret2
    exact ⟨_, by first | rfl | (simp [errW_none, errW_some] <;> rfl) | (simp [*, errW_none, errW_some] <;> rfl), by first | exact Kd.S_nil _ _ _ _ _ | exact Kd.N_nil _ _ _ _ _ | exact Kd.V_nil _ _ _ _ _ | exact Kd.Q_nil _ _ _ _ _ | exact Kd.R_nil _ _ _ _ _, by repeat (first | (with_reducible first | exact HB.out | apply below_alloc | apply pw_below_drewN | apply below_drew1) | exact HB.out)⟩

/-! ### laws_FnExactDiagramsOf: function 6, by hand -/
def laws_FnExactDiagramsOf.Told (a0 : Int) (k : Nat) (R : List (List Int)) (c m : Int) (R2 : List (List Int)) : Prop :=
  spec_DiagramsOf.f k a0 = some (R, c) ∧ impl_DiagramsOf.f k a0 = some (R, c) ∧ laws_eqInt64SS.f k R R = some true ∧ laws_markInt64SS.f k R 1 = some (m, R2) ∧ laws_heldInt64SS.f k R2 1 = some m ∧ 0 ≤ m
def laws_FnExactDiagramsOf.Pure : Prop := ∀ (a0 : Int), (Lit.int .i64 a0).wf = true → ∃ k R c m R2, laws_FnExactDiagramsOf.Told a0 k R c m R2
set_option maxHeartbeats 16000000 in
set_option maxRecDepth 100000 in
theorem laws_FnExactDiagramsOf.one (a0 : Int) (w : World) (k : Nat) (R : List (List Int)) (c m : Int) (R2 : List (List Int)) (h : laws_FnExactDiagramsOf.Told a0 k R c m R2) :
    Calls Try.prog 6 #[.int .i64 a0] w fun e w' => e = .returned (.bool true) ∧ Below w.heap.size w w' := by
  obtain ⟨h1, h2, h3, h4, h5, h6⟩ := h
  have FS := Aside0.mk h1
  have FI := Aside0.mk h2
  have FE := Aside0.mk h3
  have FM := Aside0.mk h4
  have FH := Aside0.mk h5
  clear h1 h2 h3 h4 h5
  have d3 : decide (m < 0) = false := decide_eq_false (by omega)
  clear h6
  go_enter Try.func6, Try.ntmps6
  go_wp2_with fail
  refine (spec_DiagramsOf.calls k a0 R c _ FS.out).mono ?_
  rintro e w2 ⟨v2, rfl, ho, hb⟩
  obtain ⟨A2, c2, rfl, k2, hC2⟩ := Kd.N_reads ho
  have K2 := Aside0.mk k2
  have C2 := Aside0.mk hC2
  have BW := Aside0.mk (hb)
  clear ho hb k2 hC2
  go_wp2_with fail
  refine (impl_DiagramsOf.calls k a0 R c _ FI.out).mono ?_
  rintro e w4 ⟨v4, rfl, ho, hb⟩
  have S4 := Aside0.mk ho
  have B4 := Aside0.mk hb
  clear ho hb
  obtain ⟨A4, c4, rfl⟩ := Kd.S_slice S4.out
  have BR4 := Aside0.mk (B4.out)
  go_wp2_with fail
  refine (laws_eqInt64SS.calls k _ _ R _ _ R true _ (Kd.S_reads' (S4.out)).2.2 (Kd.S_reads' (S4.out)).2.1 (Kd.C_below C2.out (BR4.out)) K2.out FE.out).mono ?_
  rintro e w5 ⟨rfl, hd⟩
  have D5 := Aside0.mk hd.below
  clear hd
  have BR5 := Aside0.mk (below_step BR4.out D5.out)
  have S5 := Aside0.mk (Kd.S_below S4.out D5.out)
  have BR9 := BR5
  have S9 := S5
  go_wp2_with fail
  refine (laws_markInt64SS.calls k _ _ R 1 m R2 w2 _ BR9.out S9.out FM.out).mono ?_
  rintro e w10 ⟨rfl, ho, hb, _⟩
  have BR10 := Aside0.mk hb
  have S10 := Aside0.mk ho
  clear ho hb
  go_wp2_with fail
  have hl_ := (Kd.S_reads' S10.out).1
  have hh_ := laws_heldInt64SS.calls k _ _ R2 1 m _ (Kd.S_reads' S10.out).2.2 (by rw [← hl_]; exact (Kd.S_reads' S10.out).2.1) FH.out
  rw [← hl_] at hh_
  clear hl_
  refine hh_.mono ?_
  clear hh_
  rintro e w11 ⟨rfl, hd⟩
  have D11 := Aside0.mk hd.below
  clear hd
  have BR11 := Aside0.mk (below_step BR10.out D11.out)
  have S11 := Aside0.mk (Kd.S_below S10.out D11.out)
  have BR12 := BR11
  have S12 := S11
  go_wp2_with fail
  refine (impl_DiagramsOf.calls k a0 R c _ FI.out).mono ?_
  rintro e w13 ⟨v13, rfl, ho, hb⟩
  have S13 := Aside0.mk ho
  have B13 := Aside0.mk hb
  clear ho hb
  obtain ⟨A13, c13, rfl⟩ := Kd.S_slice S13.out
  have BR13 := Aside0.mk (below_step BR12.out B13.out)
  have T13 := Aside0.mk (Kd.S_below S12.out B13.out)
  go_wp2_with fail
  refine (laws_eqInt64SS.calls k _ _ R _ _ R true _ (Kd.S_reads' (S13.out)).2.2 (Kd.S_reads' (S13.out)).2.1 (Kd.C_below C2.out (BR13.out)) K2.out FE.out).mono ?_
  rintro e w14 ⟨rfl, hd⟩
  have D14 := Aside0.mk hd.below
  clear hd
  have BR14 := Aside0.mk (below_step BR13.out D14.out)
  have T14 := Aside0.mk (Kd.S_below T13.out D14.out)
  go_wp2_with fail
  have hl_ := (Kd.S_reads' T14.out).1
  have hh_ := laws_heldInt64SS.calls k _ _ R2 1 m _ (Kd.S_reads' T14.out).2.2 (by rw [← hl_]; exact (Kd.S_reads' T14.out).2.1) FH.out
  rw [← hl_] at hh_
  clear hl_
  refine hh_.mono ?_
  clear hh_
  rintro e w15 ⟨rfl, hd⟩
  have D15 := Aside0.mk hd.below
  clear hd
  have BR15 := Aside0.mk (below_step BR14.out D15.out)
  go_wp2
  go_ret
  exact ⟨rfl, below_then BW.out BW.out.size (BR15.out)⟩
theorem laws_FnExactDiagramsOf.walk (P : laws_FnExactDiagramsOf.Pure) (a0 : Int) (w : World) (w0 : (Lit.int .i64 a0).wf = true) :
    Calls Try.prog 6 #[.int .i64 a0] w fun e w' => e = .returned (.bool true) ∧ Below w.heap.size w w' := by
  obtain ⟨k, R, c, m, R2, h⟩ := P a0 w0
  exact laws_FnExactDiagramsOf.one a0 w k R c m R2 h

end Go.Proofs.Ytflpdjmdkdgijaa.G
