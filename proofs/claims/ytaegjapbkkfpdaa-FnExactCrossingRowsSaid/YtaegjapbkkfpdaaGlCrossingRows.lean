-- Written by the session's program mk.py (which runs the kit's print.py over functions and over contracts given by hand).
import Derived.Test.YtaegjapbkkfpdaaG0
import Derived.Test.YtaegjapbkkfpdaaG103
import Derived.Test.YtaegjapbkkfpdaaG54
import Derived.Test.YtaegjapbkkfpdaaG88
import Derived.Test.YtaegjapbkkfpdaaGgI
import Derived.Test.YtaegjapbkkfpdaaGgL
import Derived.Test.YtaegjapbkkfpdaaGgS
namespace Go.Proofs.Ytaegjapbkkfpdaa.G
open Go.RowKit Go.Maps Go.Proofs.YtaegjapbkkfpdaaW.PrintWords Go.Proofs.YtaegjapbkkfpdaaW.PrintLast Go.Proofs.YtaegjapbkkfpdaaW.PrintMore
attribute [local go_sem] max2_int min2_int max_two min_two max_three min_three max_four min_four   -- for this text's walks alone
set_option linter.unusedVariables false
set_option linter.unusedSimpArgs false

/-! ### spec_CrossingRows: function 51 -/
def spec_CrossingRows.f (k : Nat) (l0 : List Int) : Option ((List (List Int)) × Int) := (spec_l01Is.f k l0).bind fun t101 => (if t101 = true then ((spec_l01Cross.f k l0).bind fun t102 => (some (t102, 0))) else (some (([] : List (List Int)), 1)))
theorem spec_CrossingRows.mono : ∀ a0 k, LeO (spec_CrossingRows.f k a0) (spec_CrossingRows.f (k + 1) a0) := by
  intro a0 k
  unfold spec_CrossingRows.f
  repeat' first
      | (with_reducible exact spec_l01Cross.mono _ _)
      | (with_reducible exact spec_l01Is.mono _ _)
      | (with_reducible exact LeO.refl _)
      | (with_reducible exact LeO.none _)
      | (with_reducible refine LeO.ite ?_ ?_)
      | (with_reducible refine LeO.bind ?_ (fun _ => ?_))
      | exact spec_l01Cross.mono _ _
      | exact spec_l01Is.mono _ _
      | exact LeO.none _
      | refine LeO.ite ?_ ?_
      | refine LeO.bind ?_ (fun _ => ?_)
set_option maxHeartbeats 8000000 in
set_option maxRecDepth 100000 in
theorem spec_CrossingRows.calls (k : Nat) (A0 : Option Addr) (c0 : Nat) (l0 : List Int) (r1 : List (List Int)) (r2 : Int) (w : World) (hr0 : Kd.C (Kd.int .i64) w A0 l0.length l0) (hc0 : l0.length ≤ c0) (h : spec_CrossingRows.f k l0 = some (r1, r2)) :
    Calls Try.prog 51 #[.slice A0 l0.length c0] w fun e w' => ∃ v0_ : Value, e = .returned (.tuple #[v0_, .int .i64 r2]) ∧ Kd.S (Kd.slice 2 (Kd.int .i64)) 22 w' w.heap.size (fun _ => True) v0_ r1 ∧ Below w.heap.size w w' := by
  have HR0 := Aside0.mk hr0
  have HC0 := Aside0.mk hc0
  clear hr0 hc0
  have HB := Aside0.mk (Below.refl w.heap.size w)
  have H : ((spec_l01Is.f k l0).bind fun t101 => (if t101 = true then ((spec_l01Cross.f k l0).bind fun t102 => (some (t102, 0))) else (some (([] : List (List Int)), 1)))) = some (r1, r2) := h
  clear h
  replace H := Option.bind_eq_some_iff.mp H
  obtain ⟨t101, A20, H⟩ := H
  replace H : (if t101 = true then ((spec_l01Cross.f k l0).bind fun t102 => (some (t102, 0))) else (some (([] : List (List Int)), 1))) = some (r1, r2) := H
  have A2 := Aside0.mk A20
  clear A20
  by_cases c3 : t101 = true
  · subst c3
    have H1 : ((spec_l01Cross.f k l0).bind fun t102 => (some (t102, 0))) = some (r1, r2) := by rw [if_pos rfl] at H; exact H
    clear H
    have H := H1
    clear H1
    replace H := Option.bind_eq_some_iff.mp H
    obtain ⟨t102, A40, H⟩ := H
    replace H : (some (t102, 0)) = some (r1, r2) := H
    have A4 := Aside0.mk A40
    clear A40
    simp only [Option.some.injEq, Prod.mk.injEq] at H
    obtain ⟨rfl, rfl⟩ := H
    go_enter Try.func51, Try.ntmps51
    go_wp2_with (first | ((with_reducible refine gate_callee (f := 64) rfl ?_); refine goesL_ (some 5) rfl rfl Try.func64 (by kernel_rfl) rfl #[.slice A0 l0.length c0] rfl (by (try simp only [List.map_toArray, List.map_cons, List.map_nil]); first | done | rfl | (simp only [List.length_drop, List.length_take]; rfl)) ?_; (with_reducible refine (spec_l01Is.calls k _ _ l0 true _ ?side1 ?side2 A2.out).mono ?_); (case side1 => repeat (first | exact HR0.out | (with_reducible refine Kd.C_alloc ?_ _) | (with_reducible refine Kd.C_drewN ?_ _) | (with_reducible refine Kd.C_drew ?_))); (case side2 => exact HC0.out); rintro e w5 ⟨rfl, hb⟩; refine ⟨_, rfl, ?_⟩; have n0_ := Aside0.mk (below_step (by repeat (first | (with_reducible first | exact HB.out | apply below_alloc | apply pw_below_drewN | apply below_drew1) | exact HB.out)) hb); clear HB; have HB := n0_; clear n0_; (try clear hb); (try clear hb2); (try clear hk); (try clear hi)) | ((with_reducible refine gate_callee (f := 88) rfl ?_); refine goesL_ (some 8) rfl rfl Try.func88 (by kernel_rfl) rfl #[.slice A0 l0.length c0] rfl (by (try simp only [List.map_toArray, List.map_cons, List.map_nil]); first | done | rfl | (simp only [List.length_drop, List.length_take]; rfl)) ?_; (with_reducible refine (spec_l01Cross.calls k _ _ l0 t102 _ ?side1 ?side2 A4.out).mono ?_); (case side1 => repeat (first | exact (Kd.C_below HR0.out HB.out) | (with_reducible refine Kd.C_alloc ?_ _) | (with_reducible refine Kd.C_drewN ?_ _) | (with_reducible refine Kd.C_drew ?_))); (case side2 => exact HC0.out); rintro e w6 ⟨v103, rfl, ho0, hb⟩; refine ⟨_, rfl, ?_⟩; have n0_ := Aside0.mk (Kd.S_lower ho0 (below_size (by repeat (first | (with_reducible first | exact HB.out | apply below_alloc | apply pw_below_drewN | apply below_drew1) | exact HB.out)))); have n1_ := Aside0.mk (below_step (by repeat (first | (with_reducible first | exact HB.out | apply below_alloc | apply pw_below_drewN | apply below_drew1) | exact HB.out)) hb); clear HB; have HO104 := n0_; have HB := n1_; clear n0_ n1_; (try clear hb); (try clear hb2); (try clear hk); (try clear hi); (try clear ho0)))
    go_ret2
    exact ⟨_, by first | rfl | (simp [errW_none, errW_some] <;> rfl) | (simp [*, errW_none, errW_some] <;> rfl), by (with_reducible repeat (first | apply Kd.S_alloc | apply Kd.S_drewN | apply Kd.S_drew)); exact HO104.out, by repeat (first | (with_reducible first | exact HB.out | apply below_alloc | apply pw_below_drewN | apply below_drew1) | exact HB.out)⟩
  · replace c3 := Bool.eq_false_iff.mpr c3
    subst c3
    have H1 : (some (([] : List (List Int)), 1)) = some (r1, r2) := by rw [if_neg (show ¬ (false = true) by decide)] at H; exact H
    clear H
    have H := H1
    clear H1
    simp only [Option.some.injEq, Prod.mk.injEq] at H
    obtain ⟨rfl, rfl⟩ := H
    go_enter Try.func51, Try.ntmps51
    go_wp2_with (first | ((with_reducible refine gate_callee (f := 64) rfl ?_); refine goesL_ (some 5) rfl rfl Try.func64 (by kernel_rfl) rfl #[.slice A0 l0.length c0] rfl (by (try simp only [List.map_toArray, List.map_cons, List.map_nil]); first | done | rfl | (simp only [List.length_drop, List.length_take]; rfl)) ?_; (with_reducible refine (spec_l01Is.calls k _ _ l0 false _ ?side1 ?side2 A2.out).mono ?_); (case side1 => repeat (first | exact HR0.out | (with_reducible refine Kd.C_alloc ?_ _) | (with_reducible refine Kd.C_drewN ?_ _) | (with_reducible refine Kd.C_drew ?_))); (case side2 => exact HC0.out); rintro e w7 ⟨rfl, hb⟩; refine ⟨_, rfl, ?_⟩; have n0_ := Aside0.mk (below_step (by repeat (first | (with_reducible first | exact HB.out | apply below_alloc | apply pw_below_drewN | apply below_drew1) | exact HB.out)) hb); clear HB; have HB := n0_; clear n0_; (try clear hb); (try clear hb2); (try clear hk); (try clear hi)))
    go_ret2
    exact ⟨_, by first | rfl | (simp [errW_none, errW_some] <;> rfl) | (simp [*, errW_none, errW_some] <;> rfl), by first | exact Kd.S_nil _ _ _ _ _ | exact Kd.N_nil _ _ _ _ _ | exact Kd.V_nil _ _ _ _ _ | exact Kd.Q_nil _ _ _ _ _ | exact Kd.R_nil _ _ _ _ _, by repeat (first | (with_reducible first | exact HB.out | apply below_alloc | apply pw_below_drewN | apply below_drew1) | exact HB.out)⟩

/-! ### impl_CrossingRows: function 52 -/
def impl_CrossingRows.f (k : Nat) (l0 : List Int) : Option ((List (List Int)) × Int) := (impl_IsWord.f k l0).bind fun t101 => (if t101 = true then ((impl_rows.f k l0).bind fun t102 => (some (t102, 0))) else (some (([] : List (List Int)), 1)))
theorem impl_CrossingRows.mono : ∀ a0 k, LeO (impl_CrossingRows.f k a0) (impl_CrossingRows.f (k + 1) a0) := by
  intro a0 k
  unfold impl_CrossingRows.f
  repeat' first
      | (with_reducible exact impl_IsWord.mono _ _)
      | (with_reducible exact impl_rows.mono _ _)
      | (with_reducible exact LeO.refl _)
      | (with_reducible exact LeO.none _)
      | (with_reducible refine LeO.ite ?_ ?_)
      | (with_reducible refine LeO.bind ?_ (fun _ => ?_))
      | exact impl_IsWord.mono _ _
      | exact impl_rows.mono _ _
      | exact LeO.none _
      | refine LeO.ite ?_ ?_
      | refine LeO.bind ?_ (fun _ => ?_)
set_option maxHeartbeats 8000000 in
set_option maxRecDepth 100000 in
theorem impl_CrossingRows.calls (k : Nat) (A0 : Option Addr) (c0 : Nat) (l0 : List Int) (r1 : List (List Int)) (r2 : Int) (w : World) (hr0 : Kd.C (Kd.int .i64) w A0 l0.length l0) (hc0 : l0.length ≤ c0) (h : impl_CrossingRows.f k l0 = some (r1, r2)) :
    Calls Try.prog 52 #[.slice A0 l0.length c0] w fun e w' => ∃ v0_ : Value, e = .returned (.tuple #[v0_, .int .i64 r2]) ∧ Kd.S (Kd.slice 2 (Kd.int .i64)) 22 w' w.heap.size (fun _ => True) v0_ r1 ∧ Below w.heap.size w w' := by
  have HR0 := Aside0.mk hr0
  have HC0 := Aside0.mk hc0
  clear hr0 hc0
  have HB := Aside0.mk (Below.refl w.heap.size w)
  have H : ((impl_IsWord.f k l0).bind fun t101 => (if t101 = true then ((impl_rows.f k l0).bind fun t102 => (some (t102, 0))) else (some (([] : List (List Int)), 1)))) = some (r1, r2) := h
  clear h
  replace H := Option.bind_eq_some_iff.mp H
  obtain ⟨t101, A20, H⟩ := H
  replace H : (if t101 = true then ((impl_rows.f k l0).bind fun t102 => (some (t102, 0))) else (some (([] : List (List Int)), 1))) = some (r1, r2) := H
  have A2 := Aside0.mk A20
  clear A20
  by_cases c3 : t101 = true
  · subst c3
    have H1 : ((impl_rows.f k l0).bind fun t102 => (some (t102, 0))) = some (r1, r2) := by rw [if_pos rfl] at H; exact H
    clear H
    have H := H1
    clear H1
    replace H := Option.bind_eq_some_iff.mp H
    obtain ⟨t102, A40, H⟩ := H
    replace H : (some (t102, 0)) = some (r1, r2) := H
    have A4 := Aside0.mk A40
    clear A40
    simp only [Option.some.injEq, Prod.mk.injEq] at H
    obtain ⟨rfl, rfl⟩ := H
    go_enter Try.func52, Try.ntmps52
    go_wp2_with (first | ((with_reducible refine gate_callee (f := 23) rfl ?_); refine goesL_ (some 5) rfl rfl Try.func23 (by kernel_rfl) rfl #[.slice A0 l0.length c0] rfl (by (try simp only [List.map_toArray, List.map_cons, List.map_nil]); first | done | rfl | (simp only [List.length_drop, List.length_take]; rfl)) ?_; (with_reducible refine (impl_IsWord.calls k _ _ l0 true _ ?side1 ?side2 A2.out).mono ?_); (case side1 => repeat (first | exact HR0.out | (with_reducible refine Kd.C_alloc ?_ _) | (with_reducible refine Kd.C_drewN ?_ _) | (with_reducible refine Kd.C_drew ?_))); (case side2 => exact HC0.out); rintro e w5 ⟨rfl, hb⟩; refine ⟨_, rfl, ?_⟩; have n0_ := Aside0.mk (below_step (by repeat (first | (with_reducible first | exact HB.out | apply below_alloc | apply pw_below_drewN | apply below_drew1) | exact HB.out)) hb); clear HB; have HB := n0_; clear n0_; (try clear hb); (try clear hb2); (try clear hk); (try clear hi)) | ((with_reducible refine gate_callee (f := 103) rfl ?_); refine goesL_ (some 8) rfl rfl Try.func103 (by kernel_rfl) rfl #[.slice A0 l0.length c0] rfl (by (try simp only [List.map_toArray, List.map_cons, List.map_nil]); first | done | rfl | (simp only [List.length_drop, List.length_take]; rfl)) ?_; (with_reducible refine (impl_rows.calls k _ _ l0 t102 _ ?side1 ?side2 A4.out).mono ?_); (case side1 => repeat (first | exact (Kd.C_below HR0.out HB.out) | (with_reducible refine Kd.C_alloc ?_ _) | (with_reducible refine Kd.C_drewN ?_ _) | (with_reducible refine Kd.C_drew ?_))); (case side2 => exact HC0.out); rintro e w6 ⟨v103, rfl, ho0, hb⟩; refine ⟨_, rfl, ?_⟩; have n0_ := Aside0.mk (Kd.S_lower ho0 (below_size (by repeat (first | (with_reducible first | exact HB.out | apply below_alloc | apply pw_below_drewN | apply below_drew1) | exact HB.out)))); have n1_ := Aside0.mk (below_step (by repeat (first | (with_reducible first | exact HB.out | apply below_alloc | apply pw_below_drewN | apply below_drew1) | exact HB.out)) hb); clear HB; have HO104 := n0_; have HB := n1_; clear n0_ n1_; (try clear hb); (try clear hb2); (try clear hk); (try clear hi); (try clear ho0)))
    go_ret2
    exact ⟨_, by first | rfl | (simp [errW_none, errW_some] <;> rfl) | (simp [*, errW_none, errW_some] <;> rfl), by (with_reducible repeat (first | apply Kd.S_alloc | apply Kd.S_drewN | apply Kd.S_drew)); exact HO104.out, by repeat (first | (with_reducible first | exact HB.out | apply below_alloc | apply pw_below_drewN | apply below_drew1) | exact HB.out)⟩
  · replace c3 := Bool.eq_false_iff.mpr c3
    subst c3
    have H1 : (some (([] : List (List Int)), 1)) = some (r1, r2) := by rw [if_neg (show ¬ (false = true) by decide)] at H; exact H
    clear H
    have H := H1
    clear H1
    simp only [Option.some.injEq, Prod.mk.injEq] at H
    obtain ⟨rfl, rfl⟩ := H
    go_enter Try.func52, Try.ntmps52
    go_wp2_with (first | ((with_reducible refine gate_callee (f := 23) rfl ?_); refine goesL_ (some 5) rfl rfl Try.func23 (by kernel_rfl) rfl #[.slice A0 l0.length c0] rfl (by (try simp only [List.map_toArray, List.map_cons, List.map_nil]); first | done | rfl | (simp only [List.length_drop, List.length_take]; rfl)) ?_; (with_reducible refine (impl_IsWord.calls k _ _ l0 false _ ?side1 ?side2 A2.out).mono ?_); (case side1 => repeat (first | exact HR0.out | (with_reducible refine Kd.C_alloc ?_ _) | (with_reducible refine Kd.C_drewN ?_ _) | (with_reducible refine Kd.C_drew ?_))); (case side2 => exact HC0.out); rintro e w7 ⟨rfl, hb⟩; refine ⟨_, rfl, ?_⟩; have n0_ := Aside0.mk (below_step (by repeat (first | (with_reducible first | exact HB.out | apply below_alloc | apply pw_below_drewN | apply below_drew1) | exact HB.out)) hb); clear HB; have HB := n0_; clear n0_; (try clear hb); (try clear hb2); (try clear hk); (try clear hi)))
    go_ret2
    exact ⟨_, by first | rfl | (simp [errW_none, errW_some] <;> rfl) | (simp [*, errW_none, errW_some] <;> rfl), by first | exact Kd.S_nil _ _ _ _ _ | exact Kd.N_nil _ _ _ _ _ | exact Kd.V_nil _ _ _ _ _ | exact Kd.Q_nil _ _ _ _ _ | exact Kd.R_nil _ _ _ _ _, by repeat (first | (with_reducible first | exact HB.out | apply below_alloc | apply pw_below_drewN | apply below_drew1) | exact HB.out)⟩

/-! ### laws_FnExactCrossingRows: function 16, by hand -/
def laws_FnExactCrossingRows.Told (l0 : List Int) (k : Nat) (R : List (List Int)) (c m : Int) (R2 : List (List Int)) (m0 : Int) (q0 : List Int) : Prop :=
  spec_CrossingRows.f k l0 = some (R, c) ∧ impl_CrossingRows.f k l0 = some (R, c) ∧ laws_eqInt64SS.f k R R = some true ∧ laws_markInt64SS.f k R 1 = some (m, R2) ∧ laws_heldInt64SS.f k R2 1 = some m ∧ 0 ≤ m ∧ laws_toInt64S.f k l0 = some l0 ∧ laws_eqInt64S.f k l0 l0 = some true ∧ laws_markInt64S.f k l0 1 = some (m0, q0) ∧ 0 ≤ m0
def laws_FnExactCrossingRows.Pure : Prop := ∀ (l0 : List Int), l0.length ≤ maxLen → l0.length * 8 ≤ 140737488351232 → (∀ x ∈ l0, (Lit.int .i64 x).wf = true) → l0.length ≤ 1048576 → ∃ k R c m R2 m0 q0, laws_FnExactCrossingRows.Told l0 k R c m R2 m0 q0
set_option maxHeartbeats 16000000 in
set_option maxRecDepth 100000 in
theorem laws_FnExactCrossingRows.one (A0 : Option Addr) (c0 : Nat) (l0 : List Int) (w : World) (hr0 : Kd.C (Kd.int .i64) w A0 l0.length l0) (hc0 : l0.length ≤ c0) (hs0 : l0.length ≤ 1048576) (k : Nat) (R : List (List Int)) (c m : Int) (R2 : List (List Int)) (m0 : Int) (q0 : List Int) (h : laws_FnExactCrossingRows.Told l0 k R c m R2 m0 q0) :
    Calls Try.prog 16 #[.slice A0 l0.length c0] w fun e w' => e = .returned (.bool true) ∧ Below w.heap.size w w' := by
  obtain ⟨h1, h2, h3, h4, h5, h6, h7, h8, h9, h10⟩ := h
  have FS := Aside0.mk h1
  have FI := Aside0.mk h2
  have FE := Aside0.mk h3
  have FM := Aside0.mk h4
  have FH := Aside0.mk h5
  have FT := Aside0.mk h7
  have FQ := Aside0.mk h8
  have FK := Aside0.mk h9
  clear h1 h2 h3 h4 h5 h7 h8 h9
  have d3 : decide (m < 0) = false := decide_eq_false (by omega)
  have d1 : decide (1048576 < l0.length) = false := decide_eq_false (by omega)
  have d2 : decide ((1048576 : Int) < (l0.length : Int)) = false := decide_eq_false (by omega)
  have d4 : decide (m0 < 0) = false := decide_eq_false (by omega)
  have HA := Aside0.mk hr0
  have HC := Aside0.mk hc0
  clear hr0 hc0 hs0 h6 h10
  go_enter Try.func16, Try.ntmps16
  go_wp2_with fail
  refine (laws_toInt64S.calls k _ _ l0 l0 _ (Kd.C_below HA.out (Below.refl _ _)) HC.out FT.out).mono ?_
  rintro e w1 ⟨v1, rfl, ho, hb⟩
  have R1 := Aside0.mk ho
  have B1 := Aside0.mk hb
  clear ho hb
  obtain ⟨A1, c1, rfl⟩ := Kd.R_slice R1.out
  go_wp2_with fail
  refine (spec_CrossingRows.calls k _ _ l0 R c _ (Kd.R_reads' R1.out).2.2 (Kd.R_reads' R1.out).2.1 FS.out).mono ?_
  rintro e w2 ⟨v2, rfl, ho, hb⟩
  obtain ⟨A2, c2, rfl, k2, hC2⟩ := Kd.S_reads ho
  have K2 := Aside0.mk k2
  have C2 := Aside0.mk hC2
  have BW := Aside0.mk (below_step B1.out hb)
  clear ho hb k2 hC2 R1 B1
  go_wp2_with fail
  refine (laws_toInt64S.calls k _ _ l0 l0 _ (Kd.C_below HA.out (BW.out)) HC.out FT.out).mono ?_
  rintro e w3 ⟨v3, rfl, ho, hb⟩
  have R3 := Aside0.mk ho
  have B3 := Aside0.mk hb
  clear ho hb
  obtain ⟨A3, c3, rfl⟩ := Kd.R_slice R3.out
  have BR := B3
  go_wp2_with fail
  refine (impl_CrossingRows.calls k _ _ l0 R c _ (Kd.R_reads' R3.out).2.2 (Kd.R_reads' R3.out).2.1 FI.out).mono ?_
  rintro e w4 ⟨v4, rfl, ho, hb⟩
  have S4 := Aside0.mk ho
  have B4 := Aside0.mk hb
  clear ho hb
  obtain ⟨A4, c4, rfl⟩ := Kd.S_slice S4.out
  have BR4 := Aside0.mk (below_step BR.out B4.out)
  go_wp2_with fail
  refine (laws_eqInt64SS.calls k _ _ R _ _ R true _ (Kd.S_reads' (S4.out)).2.2 (Kd.S_reads' (S4.out)).2.1 (Kd.C_below C2.out (BR4.out)) K2.out FE.out).mono ?_
  rintro e w5 ⟨rfl, hd⟩
  have D5 := Aside0.mk hd.below
  clear hd
  have BR5 := Aside0.mk (below_step BR4.out D5.out)
  have S5 := Aside0.mk (Kd.S_below S4.out D5.out)
  have R5 := Aside0.mk (Kd.R_below (Kd.R_below R3.out B4.out) D5.out)
  go_wp2_with fail
  refine (laws_toInt64S.calls k _ _ l0 l0 _ (Kd.C_below HA.out (below_then BW.out BW.out.size (BR5.out))) HC.out FT.out).mono ?_
  rintro e w6 ⟨v6, rfl, ho, hb⟩
  have R6 := Aside0.mk ho
  have B6 := Aside0.mk hb
  clear ho hb
  obtain ⟨A6, c6, rfl⟩ := Kd.R_slice R6.out
  have BR6 := Aside0.mk (below_step BR5.out B6.out)
  have S6 := Aside0.mk (Kd.S_below S5.out B6.out)
  have R56 := Aside0.mk (Kd.R_below R5.out B6.out)
  go_wp2_with fail
  refine (laws_eqInt64S.calls k _ _ l0 _ _ l0 true _ (Kd.R_reads' R56.out).2.2 (Kd.R_reads' R56.out).2.1 (Kd.R_reads' R6.out).2.2 (Kd.R_reads' R6.out).2.1 FQ.out).mono ?_
  rintro e w7 ⟨rfl, hd⟩
  have D7 := Aside0.mk hd.below
  clear hd
  have BR7 := Aside0.mk (below_step BR6.out D7.out)
  have S7 := Aside0.mk (Kd.S_below S6.out D7.out)
  have R7 := Aside0.mk (Kd.R_tight rfl (Kd.R_below R56.out D7.out))
  go_wp2_with fail
  refine (laws_markInt64S.calls k _ _ l0 1 m0 q0 w2 _ BR7.out R7.out FK.out).mono ?_
  rintro e w8 ⟨rfl, _, hb, hk⟩
  have BR8 := Aside0.mk hb
  have S8 := Aside0.mk (Kd.S_kept (Kd.S_mono (ok' := fun k_ => w3.heap.size ≤ k_) (Kd.S_bound S7.out) (fun k_ hk_ => hk_.2.1)) hk (fun k_ hk_ hs_ => by have := Kd.R_lt R3.out k_ hs_.symm; omega))
  clear hb hk
  go_wp2_with fail
  refine (laws_eqInt64SS.calls k _ _ R _ _ R true _ (Kd.S_reads' (S8.out)).2.2 (Kd.S_reads' (S8.out)).2.1 (Kd.C_below C2.out (BR8.out)) K2.out FE.out).mono ?_
  rintro e w9 ⟨rfl, hd⟩
  have D9 := Aside0.mk hd.below
  clear hd
  have BR9 := Aside0.mk (below_step BR8.out D9.out)
  have S9 := Aside0.mk (Kd.S_lower (Kd.S_below S8.out D9.out) BR.out.size)
  go_wp2_with fail
  refine (laws_markInt64SS.calls k _ _ R 1 m R2 w2 _ BR9.out S9.out FM.out).mono ?_
  rintro e w10 ⟨rfl, ho, hb, _⟩
  have BR10 := Aside0.mk hb
  have S10 := Aside0.mk ho
  clear ho hb
  go_wp2_with fail
  have hl_ := (Kd.S_reads' S10.out).1
  have hh_ := laws_heldInt64SS.calls k _ _ R2 1 m _ (Kd.S_reads' S10.out).2.2 (by rw [← hl_]; exact (Kd.S_reads' S10.out).2.1) FH.out
  rw [← hl_] at hh_
  clear hl_
  refine hh_.mono ?_
  clear hh_
  rintro e w11 ⟨rfl, hd⟩
  have D11 := Aside0.mk hd.below
  clear hd
  have BR11 := Aside0.mk (below_step BR10.out D11.out)
  have S11 := Aside0.mk (Kd.S_below S10.out D11.out)
  go_wp2_with fail
  refine (laws_toInt64S.calls k _ _ l0 l0 _ (Kd.C_below HA.out (below_then BW.out BW.out.size (BR11.out))) HC.out FT.out).mono ?_
  rintro e w12 ⟨v12, rfl, ho, hb⟩
  have R12 := Aside0.mk ho
  have B12 := Aside0.mk hb
  clear ho hb
  obtain ⟨A12, c12, rfl⟩ := Kd.R_slice R12.out
  have BR12 := Aside0.mk (below_step BR11.out B12.out)
  have S12 := Aside0.mk (Kd.S_below S11.out B12.out)
  go_wp2_with fail
  refine (impl_CrossingRows.calls k _ _ l0 R c _ (Kd.R_reads' R12.out).2.2 (Kd.R_reads' R12.out).2.1 FI.out).mono ?_
  rintro e w13 ⟨v13, rfl, ho, hb⟩
  have S13 := Aside0.mk ho
  have B13 := Aside0.mk hb
  clear ho hb
  obtain ⟨A13, c13, rfl⟩ := Kd.S_slice S13.out
  have BR13 := Aside0.mk (below_step BR12.out B13.out)
  have T13 := Aside0.mk (Kd.S_below S12.out B13.out)
  go_wp2_with fail
  refine (laws_eqInt64SS.calls k _ _ R _ _ R true _ (Kd.S_reads' (S13.out)).2.2 (Kd.S_reads' (S13.out)).2.1 (Kd.C_below C2.out (BR13.out)) K2.out FE.out).mono ?_
  rintro e w14 ⟨rfl, hd⟩
  have D14 := Aside0.mk hd.below
  clear hd
  have BR14 := Aside0.mk (below_step BR13.out D14.out)
  have T14 := Aside0.mk (Kd.S_below T13.out D14.out)
  go_wp2_with fail
  have hl_ := (Kd.S_reads' T14.out).1
  have hh_ := laws_heldInt64SS.calls k _ _ R2 1 m _ (Kd.S_reads' T14.out).2.2 (by rw [← hl_]; exact (Kd.S_reads' T14.out).2.1) FH.out
  rw [← hl_] at hh_
  clear hl_
  refine hh_.mono ?_
  clear hh_
  rintro e w15 ⟨rfl, hd⟩
  have D15 := Aside0.mk hd.below
  clear hd
  have BR15 := Aside0.mk (below_step BR14.out D15.out)
  go_wp2
  go_ret
  exact ⟨rfl, below_then BW.out BW.out.size (BR15.out)⟩
set_option maxHeartbeats 4000000 in
theorem laws_FnExactCrossingRows.early (A0 : Option Addr) (c0 : Nat) (l0 : List Int) (w : World) (hs0 : 1048576 < l0.length) (hm : l0.length ≤ maxLen) :
    Calls Try.prog 16 #[.slice A0 l0.length c0] w fun e w' => e = .returned (.bool true) ∧ Below w.heap.size w w' := by
  have d1 : decide (1048576 < l0.length) = true := decide_eq_true hs0
  have d2 : decide ((1048576 : Int) < (l0.length : Int)) = true := decide_eq_true (by omega)
  go_enter Try.func16, Try.ntmps16
  go_wp2
  go_ret
  exact ⟨rfl, Below.refl _ _⟩
theorem laws_FnExactCrossingRows.walk (P : laws_FnExactCrossingRows.Pure) (a0 : Option Addr) (len0 cap0 : Nat) (z0 : List Int) (w : World) (w0 : (a0 = none ∧ len0 = 0 ∧ cap0 = 0 ∧ z0 = []) ∨ ∃ x, a0 = some x ∧ len0 ≤ cap0 ∧ cap0 ≤ maxLen ∧ z0.length = cap0 ∧ (∀ i, i < z0.length → w.cell? (x.add i) = some (.int .i64 (z0.getD i 0))) ∧ ∀ n ∈ z0, (Lit.int .i64 n).wf = true) (y0 : len0 * 8 ≤ 140737488351232) :
    Calls Try.prog 16 #[.slice a0 len0 cap0] w fun e w' => e = .returned (.bool true) ∧ Below w.heap.size w w' := by
  obtain ⟨l0, rfl, hr0, hm0, hw0, hc0⟩ := ReadsInt.ofRowC w0
  by_cases hs : l0.length ≤ 1048576
  · obtain ⟨k, R, c, m, R2, m0, q0, h⟩ := P l0 hm0 y0 hw0 hs
    exact laws_FnExactCrossingRows.one _ _ l0 w (Kd.C_of_reads (d := (0 : Int)) (h1 := fun _ => rfl) hr0) hc0 hs k R c m R2 m0 q0 h
  · exact laws_FnExactCrossingRows.early _ _ l0 w (by omega) hm0

end Go.Proofs.Ytaegjapbkkfpdaa.G
