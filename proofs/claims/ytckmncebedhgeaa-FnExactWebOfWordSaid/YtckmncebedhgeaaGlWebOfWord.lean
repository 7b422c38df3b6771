-- Written by the session's program mk.py (which runs the kit's print.py over functions and over contracts given by hand).
import Derived.Test.YtckmncebedhgeaaG0
import Derived.Test.YtckmncebedhgeaaG55
import Derived.Test.YtckmncebedhgeaaG56
import Derived.Test.YtckmncebedhgeaaG57
import Derived.Test.YtckmncebedhgeaaGgI
import Derived.Test.YtckmncebedhgeaaGgL
import Derived.Test.YtckmncebedhgeaaGgM
import Derived.Test.YtckmncebedhgeaaGgS
import Derived.Test.YtckmncebedhgeaaGgV
namespace Go.Proofs.Ytckmncebedhgeaa.G
open Go.RowKit Go.Maps Go.Proofs.YtckmncebedhgeaaW.PrintWords Go.Proofs.YtckmncebedhgeaaW.PrintLast Go.Proofs.YtckmncebedhgeaaW.PrintMore
attribute [local go_sem] max2_int min2_int max_two min_two max_three min_three max_four min_four   -- for this text's walks alone
set_option linter.unusedVariables false
set_option linter.unusedSimpArgs false

/-! ### spec_WebOfWord: function 53 -/
def spec_WebOfWord.f (k : Nat) (l0 : List Int) : Option (List Int × (List (List Int)) × Int) := (spec_l01Is.f k l0).bind fun t102 => (if t102 = true then (if (l0.length : Int) > 8 then (some (([] : List Int), ([] : List (List Int)), 3)) else ((spec_l01Own.f l0).bind fun t103 => (some (t103, (([] : List (List Int))), 0)))) else (some (([] : List Int), ([] : List (List Int)), 1)))
theorem spec_WebOfWord.mono : ∀ a0 k, LeO (spec_WebOfWord.f k a0) (spec_WebOfWord.f (k + 1) a0) := by
  intro a0 k
  unfold spec_WebOfWord.f
  repeat' first
      | (with_reducible exact spec_l01Is.mono _ _)
      | (with_reducible exact LeO.refl _)
      | (with_reducible exact LeO.none _)
      | (with_reducible refine LeO.ite ?_ ?_)
      | (with_reducible refine LeO.bind ?_ (fun _ => ?_))
      | exact spec_l01Is.mono _ _
      | exact LeO.none _
      | refine LeO.ite ?_ ?_
      | refine LeO.bind ?_ (fun _ => ?_)
set_option maxHeartbeats 8000000 in
set_option maxRecDepth 100000 in
theorem spec_WebOfWord.calls (k : Nat) (A0 : Option Addr) (c0 : Nat) (l0 : List Int) (r1 : List Int) (r2 : List (List Int)) (r3 : Int) (w : World) (hr0 : Kd.C (Kd.int .i64) w A0 l0.length l0) (hc0 : l0.length ≤ c0) (h : spec_WebOfWord.f k l0 = some (r1, r2, r3)) :
    Calls Try.prog 53 #[.slice A0 l0.length c0] w fun e w' => ∃ v0_ v1_ : Value, e = .returned (.tuple #[.agg #[v0_, v1_], .int .i64 r3]) ∧ Kd.R (Kd.int .i64) 2 w' w.heap.size (fun _ => True) v0_ r1 ∧ Kd.S (Kd.slice 2 (Kd.int .i64)) 28 w' w.heap.size (fun k_ => some k_ ≠ (v0_ : Value).ownBlock) v1_ r2 ∧ Below w.heap.size w w' := by
  have hu40 := Try.underlying40
  have HR0 := Aside0.mk hr0
  have HC0 := Aside0.mk hc0
  clear hr0 hc0
  have HB := Aside0.mk (Below.refl w.heap.size w)
  have H : ((spec_l01Is.f k l0).bind fun t102 => (if t102 = true then (if (l0.length : Int) > 8 then (some (([] : List Int), ([] : List (List Int)), 3)) else ((spec_l01Own.f l0).bind fun t103 => (some (t103, (([] : List (List Int))), 0)))) else (some (([] : List Int), ([] : List (List Int)), 1)))) = some (r1, r2, r3) := h
  clear h
  replace H := Option.bind_eq_some_iff.mp H
  obtain ⟨t102, A20, H⟩ := H
  replace H : (if t102 = true then (if (l0.length : Int) > 8 then (some (([] : List Int), ([] : List (List Int)), 3)) else ((spec_l01Own.f l0).bind fun t103 => (some (t103, (([] : List (List Int))), 0)))) else (some (([] : List Int), ([] : List (List Int)), 1))) = some (r1, r2, r3) := H
  have A2 := Aside0.mk A20
  clear A20
  by_cases c3 : t102 = true
  · subst c3
    have H1 : (if (l0.length : Int) > 8 then (some (([] : List Int), ([] : List (List Int)), 3)) else ((spec_l01Own.f l0).bind fun t103 => (some (t103, (([] : List (List Int))), 0)))) = some (r1, r2, r3) := by rw [if_pos rfl] at H; exact H
    clear H
    have H := H1
    clear H1
    by_cases c4 : (l0.length : Int) > 8
    · rw [if_pos c4] at H
      have c4b0 : decide (8 < (l0.length : Int)) = true := decide_eq_true c4
      have c4b1 : decide (8 < l0.length) = true := decide_eq_true (by omega)
      clear c4
      simp only [Option.some.injEq, Prod.mk.injEq] at H
      obtain ⟨rfl, rfl, rfl⟩ := H
      go_enter Try.func53, Try.ntmps53
      go_wp2_with (first | ((with_reducible refine gate_dst (N := 2) rfl ?_); refine box_event ?hg (N := 2) ?hd (cs := #[.slice none 0 0, .slice none 0 0]) (t := 40) ?hr ?_; (case hd => rfl); (case hg => rfl); (case hr => first | (go_simp; done) | (go_simp; rfl)); intro gb101 hg w5 hbox hb; have n0_ := Aside0.mk (below_step (by repeat (first | (with_reducible first | exact HB.out | apply below_alloc | apply pw_below_drewN | apply below_drew1) | exact HB.out)) hb); have n1_ := Aside0.mk (hbox); have n2_ := Aside0.mk ((by rw [hg]; exact (below_size (by repeat (first | (with_reducible first | exact HB.out | apply below_alloc | apply pw_below_drewN | apply below_drew1) | exact HB.out))) : w.heap.size ≤ gb101)); have n3_ := Aside0.mk ((by rw [hg]; exact (below_size (by repeat (first | (with_reducible first | exact HB.out | apply below_alloc | apply pw_below_drewN | apply below_drew1) | exact HB.out))) : w.heap.size ≤ gb101)); clear HB; have HB := n0_; have BK101 := n1_; have GW101 := n2_; have GE101 := n3_; clear n0_ n1_ n2_ n3_; clear hb hbox hg) | ((with_reducible refine gate_callee (f := 102) rfl ?_); refine goesL_ (some 6) rfl rfl Try.func102 (by kernel_rfl) rfl #[.slice A0 l0.length c0] rfl (by (try simp only [List.map_toArray, List.map_cons, List.map_nil]); first | done | rfl | (simp only [List.length_drop, List.length_take]; rfl)) ?_; (with_reducible refine (spec_l01Is.calls k _ _ l0 true _ ?side1 ?side2 A2.out).mono ?_); (case side1 => repeat (first | exact (Kd.C_below HR0.out HB.out) | (with_reducible refine Kd.C_alloc ?_ _) | (with_reducible refine Kd.C_drewN ?_ _) | (with_reducible refine Kd.C_drew ?_))); (case side2 => exact HC0.out); rintro e w6 ⟨rfl, hb⟩; refine ⟨_, rfl, ?_⟩; have n0_ := Aside0.mk (blk_below (g := gb101) (o := .cells #[.slice none 0 0, .slice none 0 0] 40 (0, 0)) (by (with_reducible repeat (first | refine blk_drewN ?_ _ | refine blk_drew ?_ | refine blk_alloc ?_ _)); exact BK101.out) hb); have n1_ := Aside0.mk (below_step (by repeat (first | (with_reducible first | exact HB.out | apply below_alloc | apply pw_below_drewN | apply below_drew1 | refine below_set ?_ GE101.out) | exact HB.out)) hb); clear BK101; clear HB; have BK101 := n0_; have HB := n1_; clear n0_ n1_; (try clear hb); (try clear hb2); (try clear hk); (try clear hi); have hcz7_0 : w6.cell? ⟨gb101, 0, none⟩ = some (.slice none 0 0) := (blk_cell BK101.out 0).trans rfl; have hcz7_1 : w6.cell? ⟨gb101, 1, none⟩ = some (.slice none 0 0) := (blk_cell BK101.out 1).trans rfl; have hfz7_0 := blk_frozen BK101.out 0; have hfz7_1 := blk_frozen BK101.out 1))
      refine bodyPost_ret (results_ct rfl _ _ gb101 40 #[.slice none 0 0, .slice none 0 0] (0, 0) _ rfl (by (with_reducible repeat (first | refine blk_drewN ?_ _ | refine blk_drew ?_ | refine blk_alloc ?_ _)); refine blk_put (cs := #[.slice none 0 0, .slice none 0 0]) ?_ 1 _ rfl; (with_reducible repeat (first | refine blk_drewN ?_ _ | refine blk_drew ?_ | refine blk_alloc ?_ _)); refine blk_put (cs := #[.slice none 0 0, .slice none 0 0]) ?_ 0 _ rfl; (with_reducible repeat (first | refine blk_drewN ?_ _ | refine blk_drew ?_ | refine blk_alloc ?_ _)); exact BK101.out) Try.underlying40 rfl (by kernel_rfl)) rfl ?_
      exact ⟨_, _, by first | rfl | (simp [errW_none, errW_some] <;> rfl) | (simp [*, errW_none, errW_some] <;> rfl), by first | exact Kd.R_nil _ _ _ _ _ | exact Kd.N_nil _ _ _ _ _ | exact Kd.V_nil _ _ _ _ _ | exact Kd.Q_nil _ _ _ _ _ | exact Kd.S_nil _ _ _ _ _, by first | exact Kd.S_nil _ _ _ _ _ | exact Kd.N_nil _ _ _ _ _ | exact Kd.V_nil _ _ _ _ _ | exact Kd.Q_nil _ _ _ _ _ | exact Kd.R_nil _ _ _ _ _, by repeat (first | (with_reducible first | exact HB.out | apply below_alloc | apply pw_below_drewN | apply below_drew1 | refine below_set ?_ GE101.out) | exact HB.out)⟩
    · rw [if_neg c4] at H
      have c4b0 : decide (8 < (l0.length : Int)) = false := decide_eq_false c4
      have c4b1 : decide (8 < l0.length) = false := decide_eq_false (by omega)
      clear c4
      replace H := Option.bind_eq_some_iff.mp H
      obtain ⟨t103, A80, H⟩ := H
      replace H : (some (t103, (([] : List (List Int))), 0)) = some (r1, r2, r3) := H
      have A8 := Aside0.mk A80
      clear A80
      obtain ⟨y106, hy106⟩ : ∃ y_ : List (List Int), y_ = (([] : List (List Int))) := ⟨_, rfl⟩
      replace H : (some (t103, y106, 0)) = some (r1, r2, r3) := by first | (rw [hy106]; with_reducible exact H) | (have H2_ := (Option.bind_some _ _).symm.trans H; rw [hy106]; with_reducible exact H2_) | (have H2_ := (Option.bind_some _ _).symm.trans H; with_reducible exact H2_) | with_reducible exact H | (rw [hy106]; exact H) | exact H
      have Ny106 := Aside0.mk hy106
      clear hy106
      simp only [Option.some.injEq, Prod.mk.injEq] at H
      obtain ⟨rfl, rfl, rfl⟩ := H
      go_enter Try.func53, Try.ntmps53
      go_wp2_with (first | ((with_reducible refine gate_dst (N := 2) rfl ?_); refine box_event ?hg (N := 2) ?hd (cs := #[.slice none 0 0, .slice none 0 0]) (t := 40) ?hr ?_; (case hd => rfl); (case hg => rfl); (case hr => first | (go_simp; done) | (go_simp; rfl)); intro gb101 hg w9 hbox hb; have n0_ := Aside0.mk (below_step (by repeat (first | (with_reducible first | exact HB.out | apply below_alloc | apply pw_below_drewN | apply below_drew1) | exact HB.out)) hb); have n1_ := Aside0.mk (hbox); have n2_ := Aside0.mk ((by rw [hg]; exact (below_size (by repeat (first | (with_reducible first | exact HB.out | apply below_alloc | apply pw_below_drewN | apply below_drew1) | exact HB.out))) : w.heap.size ≤ gb101)); have n3_ := Aside0.mk ((by rw [hg]; exact (below_size (by repeat (first | (with_reducible first | exact HB.out | apply below_alloc | apply pw_below_drewN | apply below_drew1) | exact HB.out))) : w.heap.size ≤ gb101)); clear HB; have HB := n0_; have BK101 := n1_; have GW101 := n2_; have GE101 := n3_; clear n0_ n1_ n2_ n3_; clear hb hbox hg) | ((with_reducible refine gate_callee (f := 102) rfl ?_); refine goesL_ (some 6) rfl rfl Try.func102 (by kernel_rfl) rfl #[.slice A0 l0.length c0] rfl (by (try simp only [List.map_toArray, List.map_cons, List.map_nil]); first | done | rfl | (simp only [List.length_drop, List.length_take]; rfl)) ?_; (with_reducible refine (spec_l01Is.calls k _ _ l0 true _ ?side1 ?side2 A2.out).mono ?_); (case side1 => repeat (first | exact (Kd.C_below HR0.out HB.out) | (with_reducible refine Kd.C_alloc ?_ _) | (with_reducible refine Kd.C_drewN ?_ _) | (with_reducible refine Kd.C_drew ?_))); (case side2 => exact HC0.out); rintro e w10 ⟨rfl, hb⟩; refine ⟨_, rfl, ?_⟩; have n0_ := Aside0.mk (blk_below (g := gb101) (o := .cells #[.slice none 0 0, .slice none 0 0] 40 (0, 0)) (by (with_reducible repeat (first | refine blk_drewN ?_ _ | refine blk_drew ?_ | refine blk_alloc ?_ _)); exact BK101.out) hb); have n1_ := Aside0.mk (below_step (by repeat (first | (with_reducible first | exact HB.out | apply below_alloc | apply pw_below_drewN | apply below_drew1 | refine below_set ?_ GE101.out) | exact HB.out)) hb); clear BK101; clear HB; have BK101 := n0_; have HB := n1_; clear n0_ n1_; (try clear hb); (try clear hb2); (try clear hk); (try clear hi)) | ((with_reducible refine gate_callee (f := 118) rfl ?_); refine goesL_ (some 15) rfl rfl Try.func118 (by kernel_rfl) rfl #[.slice A0 l0.length c0] rfl (by (try simp only [List.map_toArray, List.map_cons, List.map_nil]); first | done | rfl | (simp only [List.length_drop, List.length_take]; rfl)) ?_; (with_reducible refine (spec_l01Own.calls _ _ l0 t103 _ ?side1 ?side2 A8.out).mono ?_); (case side1 => repeat (first | exact (Kd.C_below HR0.out HB.out) | (with_reducible refine Kd.C_alloc ?_ _) | (with_reducible refine Kd.C_drewN ?_ _) | (with_reducible refine Kd.C_drew ?_))); (case side2 => exact HC0.out); rintro e w11 ⟨v104, rfl, ho0, hb⟩; refine ⟨_, rfl, ?_⟩; have n0_ := Aside0.mk (Kd.R_lower ho0 (below_size (by repeat (first | (with_reducible first | exact HB.out | apply below_alloc | apply pw_below_drewN | apply below_drew1 | refine below_set ?_ GE101.out) | exact HB.out)))); have n1_ := Aside0.mk (blk_below (g := gb101) (o := .cells #[.slice none 0 0, .slice none 0 0] 40 (0, 0)) (by (with_reducible repeat (first | refine blk_drewN ?_ _ | refine blk_drew ?_ | refine blk_alloc ?_ _)); exact BK101.out) hb); have n2_ := Aside0.mk (below_step (by repeat (first | (with_reducible first | exact HB.out | apply below_alloc | apply pw_below_drewN | apply below_drew1 | refine below_set ?_ GE101.out) | exact HB.out)) hb); clear BK101; clear HB; have HO105 := n0_; have BK101 := n1_; have HB := n2_; clear n0_ n1_ n2_; (try clear hb); (try clear hb2); (try clear hk); (try clear hi); (try clear ho0)) | ((with_reducible refine gate_dst (N := 16) rfl ?_); refine Kd.S_lit (Kd.slice 2 (Kd.int .i64)) _ 28 ?hg (N := 16) ?hd (xs := ([] : List (List Int))) (inner := []) (ok := fun _ => True) (okp := fun _ => True) ?hr ?hp (fun _ hk => hk) trivial (Below.refl _ _) (Nat.le_refl _) (by simp) ?_; (case hd => rfl); (case hg => rfl); (case hr => first | (go_simp; done) | (go_simp; rfl)); (case hp => exact (Reps.none _ _)); intro v107 w12 ho13 hb hg_ hnew_; clear hg_ hnew_; (first | rw [← Ny106.out] at ho13 | (simp only [Int.reduceToNat] at ho13; rw [← Ny106.out] at ho13)); have n0_ := Aside0.mk (Kd.R_below (by (with_reducible repeat (first | apply Kd.R_alloc | apply Kd.R_drewN | apply Kd.R_drew)); exact HO105.out) hb); have n1_ := Aside0.mk (Kd.S_lower (Kd.S_new' ho13 (Kd.R_lt (by (with_reducible repeat (first | apply Kd.R_alloc | apply Kd.R_drewN | apply Kd.R_drew)); exact HO105.out))) (below_size (by repeat (first | (with_reducible first | exact HB.out | apply below_alloc | apply pw_below_drewN | apply below_drew1 | refine below_set ?_ GE101.out) | exact HB.out)))); have n2_ := Aside0.mk (blk_below (g := gb101) (o := .cells #[.slice none 0 0, .slice none 0 0] 40 (0, 0)) (by (with_reducible repeat (first | refine blk_drewN ?_ _ | refine blk_drew ?_ | refine blk_alloc ?_ _)); exact BK101.out) hb); have n3_ := Aside0.mk (below_step (by repeat (first | (with_reducible first | exact HB.out | apply below_alloc | apply pw_below_drewN | apply below_drew1 | refine below_set ?_ GE101.out) | exact HB.out)) hb); clear HO105; clear BK101; clear HB; have HO105 := n0_; have HO108 := n1_; have BK101 := n2_; have HB := n3_; clear n0_ n1_ n2_ n3_; clear hb ho13; obtain ⟨Ao14, co14, eo14⟩ := Kd.S_slice HO108.out; subst eo14; obtain ⟨Ao15, co15, eo15⟩ := Kd.R_slice HO105.out; subst eo15; have hcz16_0 : w12.cell? ⟨gb101, 0, none⟩ = some (.slice none 0 0) := (blk_cell BK101.out 0).trans rfl; have hcz16_1 : w12.cell? ⟨gb101, 1, none⟩ = some (.slice none 0 0) := (blk_cell BK101.out 1).trans rfl; have hfz16_0 := blk_frozen BK101.out 0; have hfz16_1 := blk_frozen BK101.out 1))
      refine bodyPost_ret (results_ct rfl _ _ gb101 40 #[.slice Ao15 t103.length co15, .slice Ao14 y106.length co14] (0, 0) _ rfl (by (with_reducible repeat (first | refine blk_drewN ?_ _ | refine blk_drew ?_ | refine blk_alloc ?_ _)); refine blk_put (cs := #[.slice Ao15 t103.length co15, .slice none 0 0]) ?_ 1 _ rfl; (with_reducible repeat (first | refine blk_drewN ?_ _ | refine blk_drew ?_ | refine blk_alloc ?_ _)); refine blk_put (cs := #[.slice none 0 0, .slice none 0 0]) ?_ 0 _ rfl; (with_reducible repeat (first | refine blk_drewN ?_ _ | refine blk_drew ?_ | refine blk_alloc ?_ _)); exact BK101.out) Try.underlying40 rfl (by kernel_rfl)) rfl ?_
      exact ⟨_, _, by first | rfl | (simp [errW_none, errW_some] <;> rfl) | (simp [*, errW_none, errW_some] <;> rfl), by (with_reducible repeat (first | apply Kd.R_alloc | apply Kd.R_drewN | apply Kd.R_drew)); exact Kd.R_mono (Kd.R_far (p := ⟨gb101, 1, none⟩) (Kd.R_far (p := ⟨gb101, 0, none⟩) (Kd.R_types HO105.out BK101.out (by decide)) (fun _ hk => hk.2) (.slice Ao15 t103.length co15)) (fun _ hk => hk.2) (.slice Ao14 y106.length co14)) (fun _ hk => trivial), by (with_reducible repeat (first | apply Kd.S_alloc | apply Kd.S_drewN | apply Kd.S_drew)); exact Kd.S_mono (Kd.S_far (p := ⟨gb101, 1, none⟩) (Kd.S_far (p := ⟨gb101, 0, none⟩) (Kd.S_types HO108.out BK101.out (by decide)) (fun _ hk => hk.2) (.slice Ao15 t103.length co15)) (fun _ hk => hk.2) (.slice Ao14 y106.length co14)) (fun _ hk => hk.1.2), by repeat (first | (with_reducible first | exact HB.out | apply below_alloc | apply pw_below_drewN | apply below_drew1 | refine below_set ?_ GE101.out) | exact HB.out)⟩
  · replace c3 := Bool.eq_false_iff.mpr c3
    subst c3
    have H1 : (some (([] : List Int), ([] : List (List Int)), 1)) = some (r1, r2, r3) := by rw [if_neg (show ¬ (false = true) by decide)] at H; exact H
    clear H
    have H := H1
    clear H1
    simp only [Option.some.injEq, Prod.mk.injEq] at H
    obtain ⟨rfl, rfl, rfl⟩ := H
    go_enter Try.func53, Try.ntmps53
    go_wp2_with (first | ((with_reducible refine gate_dst (N := 2) rfl ?_); refine box_event ?hg (N := 2) ?hd (cs := #[.slice none 0 0, .slice none 0 0]) (t := 40) ?hr ?_; (case hd => rfl); (case hg => rfl); (case hr => first | (go_simp; done) | (go_simp; rfl)); intro gb101 hg w17 hbox hb; have n0_ := Aside0.mk (below_step (by repeat (first | (with_reducible first | exact HB.out | apply below_alloc | apply pw_below_drewN | apply below_drew1) | exact HB.out)) hb); have n1_ := Aside0.mk (hbox); have n2_ := Aside0.mk ((by rw [hg]; exact (below_size (by repeat (first | (with_reducible first | exact HB.out | apply below_alloc | apply pw_below_drewN | apply below_drew1) | exact HB.out))) : w.heap.size ≤ gb101)); have n3_ := Aside0.mk ((by rw [hg]; exact (below_size (by repeat (first | (with_reducible first | exact HB.out | apply below_alloc | apply pw_below_drewN | apply below_drew1) | exact HB.out))) : w.heap.size ≤ gb101)); clear HB; have HB := n0_; have BK101 := n1_; have GW101 := n2_; have GE101 := n3_; clear n0_ n1_ n2_ n3_; clear hb hbox hg) | ((with_reducible refine gate_callee (f := 102) rfl ?_); refine goesL_ (some 6) rfl rfl Try.func102 (by kernel_rfl) rfl #[.slice A0 l0.length c0] rfl (by (try simp only [List.map_toArray, List.map_cons, List.map_nil]); first | done | rfl | (simp only [List.length_drop, List.length_take]; rfl)) ?_; (with_reducible refine (spec_l01Is.calls k _ _ l0 false _ ?side1 ?side2 A2.out).mono ?_); (case side1 => repeat (first | exact (Kd.C_below HR0.out HB.out) | (with_reducible refine Kd.C_alloc ?_ _) | (with_reducible refine Kd.C_drewN ?_ _) | (with_reducible refine Kd.C_drew ?_))); (case side2 => exact HC0.out); rintro e w18 ⟨rfl, hb⟩; refine ⟨_, rfl, ?_⟩; have n0_ := Aside0.mk (blk_below (g := gb101) (o := .cells #[.slice none 0 0, .slice none 0 0] 40 (0, 0)) (by (with_reducible repeat (first | refine blk_drewN ?_ _ | refine blk_drew ?_ | refine blk_alloc ?_ _)); exact BK101.out) hb); have n1_ := Aside0.mk (below_step (by repeat (first | (with_reducible first | exact HB.out | apply below_alloc | apply pw_below_drewN | apply below_drew1 | refine below_set ?_ GE101.out) | exact HB.out)) hb); clear BK101; clear HB; have BK101 := n0_; have HB := n1_; clear n0_ n1_; (try clear hb); (try clear hb2); (try clear hk); (try clear hi); have hcz19_0 : w18.cell? ⟨gb101, 0, none⟩ = some (.slice none 0 0) := (blk_cell BK101.out 0).trans rfl; have hcz19_1 : w18.cell? ⟨gb101, 1, none⟩ = some (.slice none 0 0) := (blk_cell BK101.out 1).trans rfl; have hfz19_0 := blk_frozen BK101.out 0; have hfz19_1 := blk_frozen BK101.out 1))
    refine bodyPost_ret (results_ct rfl _ _ gb101 40 #[.slice none 0 0, .slice none 0 0] (0, 0) _ rfl (by (with_reducible repeat (first | refine blk_drewN ?_ _ | refine blk_drew ?_ | refine blk_alloc ?_ _)); refine blk_put (cs := #[.slice none 0 0, .slice none 0 0]) ?_ 1 _ rfl; (with_reducible repeat (first | refine blk_drewN ?_ _ | refine blk_drew ?_ | refine blk_alloc ?_ _)); refine blk_put (cs := #[.slice none 0 0, .slice none 0 0]) ?_ 0 _ rfl; (with_reducible repeat (first | refine blk_drewN ?_ _ | refine blk_drew ?_ | refine blk_alloc ?_ _)); exact BK101.out) Try.underlying40 rfl (by kernel_rfl)) rfl ?_
    exact ⟨_, _, by first | rfl | (simp [errW_none, errW_some] <;> rfl) | (simp [*, errW_none, errW_some] <;> rfl), by first | exact Kd.R_nil _ _ _ _ _ | exact Kd.N_nil _ _ _ _ _ | exact Kd.V_nil _ _ _ _ _ | exact Kd.Q_nil _ _ _ _ _ | exact Kd.S_nil _ _ _ _ _, by first | exact Kd.S_nil _ _ _ _ _ | exact Kd.N_nil _ _ _ _ _ | exact Kd.V_nil _ _ _ _ _ | exact Kd.Q_nil _ _ _ _ _ | exact Kd.R_nil _ _ _ _ _, by repeat (first | (with_reducible first | exact HB.out | apply below_alloc | apply pw_below_drewN | apply below_drew1 | refine below_set ?_ GE101.out) | exact HB.out)⟩

/-! ### impl_WebOfWord: function 54 -/
def impl_WebOfWord.f (k : Nat) (l0 : List Int) : Option (List Int × (List (List Int)) × Int) := (impl_IsWord.f k l0).bind fun t102 => (if t102 = true then ((impl_chords.f l0).bind fun t103 => (if t103 > 4 then (some (([] : List Int), ([] : List (List Int)), 3)) else ((slices_Clone_int64_int64.f l0).bind fun t104 => (some (t104, ([] : List (List Int)), 0))))) else (some (([] : List Int), ([] : List (List Int)), 1)))
theorem impl_WebOfWord.mono : ∀ a0 k, LeO (impl_WebOfWord.f k a0) (impl_WebOfWord.f (k + 1) a0) := by
  intro a0 k
  unfold impl_WebOfWord.f
  repeat' first
      | (with_reducible exact impl_IsWord.mono _ _)
      | (with_reducible exact LeO.refl _)
      | (with_reducible exact LeO.none _)
      | (with_reducible refine LeO.ite ?_ ?_)
      | (with_reducible refine LeO.bind ?_ (fun _ => ?_))
      | exact impl_IsWord.mono _ _
      | exact LeO.none _
      | refine LeO.ite ?_ ?_
      | refine LeO.bind ?_ (fun _ => ?_)
set_option maxHeartbeats 8000000 in
set_option maxRecDepth 100000 in
theorem impl_WebOfWord.calls (k : Nat) (A0 : Option Addr) (c0 : Nat) (l0 : List Int) (r1 : List Int) (r2 : List (List Int)) (r3 : Int) (w : World) (hr0 : Kd.C (Kd.int .i64) w A0 l0.length l0) (hc0 : l0.length ≤ c0) (h : impl_WebOfWord.f k l0 = some (r1, r2, r3)) :
    Calls Try.prog 54 #[.slice A0 l0.length c0] w fun e w' => ∃ v0_ v1_ : Value, e = .returned (.tuple #[.agg #[v0_, v1_], .int .i64 r3]) ∧ Kd.R (Kd.int .i64) 2 w' w.heap.size (fun _ => True) v0_ r1 ∧ Kd.S (Kd.slice 2 (Kd.int .i64)) 28 w' w.heap.size (fun k_ => some k_ ≠ (v0_ : Value).ownBlock) v1_ r2 ∧ Below w.heap.size w w' := by
  have hu40 := Try.underlying40
  have HR0 := Aside0.mk hr0
  have HC0 := Aside0.mk hc0
  clear hr0 hc0
  have HB := Aside0.mk (Below.refl w.heap.size w)
  have H : ((impl_IsWord.f k l0).bind fun t102 => (if t102 = true then ((impl_chords.f l0).bind fun t103 => (if t103 > 4 then (some (([] : List Int), ([] : List (List Int)), 3)) else ((slices_Clone_int64_int64.f l0).bind fun t104 => (some (t104, ([] : List (List Int)), 0))))) else (some (([] : List Int), ([] : List (List Int)), 1)))) = some (r1, r2, r3) := h
  clear h
  replace H := Option.bind_eq_some_iff.mp H
  obtain ⟨t102, A20, H⟩ := H
  replace H : (if t102 = true then ((impl_chords.f l0).bind fun t103 => (if t103 > 4 then (some (([] : List Int), ([] : List (List Int)), 3)) else ((slices_Clone_int64_int64.f l0).bind fun t104 => (some (t104, ([] : List (List Int)), 0))))) else (some (([] : List Int), ([] : List (List Int)), 1))) = some (r1, r2, r3) := H
  have A2 := Aside0.mk A20
  clear A20
  by_cases c3 : t102 = true
  · subst c3
    have H1 : ((impl_chords.f l0).bind fun t103 => (if t103 > 4 then (some (([] : List Int), ([] : List (List Int)), 3)) else ((slices_Clone_int64_int64.f l0).bind fun t104 => (some (t104, ([] : List (List Int)), 0))))) = some (r1, r2, r3) := by rw [if_pos rfl] at H; exact H
    clear H
    have H := H1
    clear H1
    replace H := Option.bind_eq_some_iff.mp H
    obtain ⟨t103, A40, H⟩ := H
    replace H : (if t103 > 4 then (some (([] : List Int), ([] : List (List Int)), 3)) else ((slices_Clone_int64_int64.f l0).bind fun t104 => (some (t104, ([] : List (List Int)), 0)))) = some (r1, r2, r3) := H
    have A4 := Aside0.mk A40
    clear A40
    by_cases c5 : t103 > 4
    · rw [if_pos c5] at H
      have c5b0 : decide (4 < t103) = true := decide_eq_true c5
      clear c5
      simp only [Option.some.injEq, Prod.mk.injEq] at H
      obtain ⟨rfl, rfl, rfl⟩ := H
      go_enter Try.func54, Try.ntmps54
      go_wp2_with (first | ((with_reducible refine gate_dst (N := 2) rfl ?_); refine box_event ?hg (N := 2) ?hd (cs := #[.slice none 0 0, .slice none 0 0]) (t := 40) ?hr ?_; (case hd => rfl); (case hg => rfl); (case hr => first | (go_simp; done) | (go_simp; rfl)); intro gb101 hg w6 hbox hb; have n0_ := Aside0.mk (below_step (by repeat (first | (with_reducible first | exact HB.out | apply below_alloc | apply pw_below_drewN | apply below_drew1) | exact HB.out)) hb); have n1_ := Aside0.mk (hbox); have n2_ := Aside0.mk ((by rw [hg]; exact (below_size (by repeat (first | (with_reducible first | exact HB.out | apply below_alloc | apply pw_below_drewN | apply below_drew1) | exact HB.out))) : w.heap.size ≤ gb101)); have n3_ := Aside0.mk ((by rw [hg]; exact (below_size (by repeat (first | (with_reducible first | exact HB.out | apply below_alloc | apply pw_below_drewN | apply below_drew1) | exact HB.out))) : w.heap.size ≤ gb101)); clear HB; have HB := n0_; have BK101 := n1_; have GW101 := n2_; have GE101 := n3_; clear n0_ n1_ n2_ n3_; clear hb hbox hg) | ((with_reducible refine gate_callee (f := 81) rfl ?_); refine goesL_ (some 6) rfl rfl Try.func81 (by kernel_rfl) rfl #[.slice A0 l0.length c0] rfl (by (try simp only [List.map_toArray, List.map_cons, List.map_nil]); first | done | rfl | (simp only [List.length_drop, List.length_take]; rfl)) ?_; (with_reducible refine (impl_IsWord.calls k _ _ l0 true _ ?side1 ?side2 A2.out).mono ?_); (case side1 => repeat (first | exact (Kd.C_below HR0.out HB.out) | (with_reducible refine Kd.C_alloc ?_ _) | (with_reducible refine Kd.C_drewN ?_ _) | (with_reducible refine Kd.C_drew ?_))); (case side2 => exact HC0.out); rintro e w7 ⟨rfl, hb⟩; refine ⟨_, rfl, ?_⟩; have n0_ := Aside0.mk (blk_below (g := gb101) (o := .cells #[.slice none 0 0, .slice none 0 0] 40 (0, 0)) (by (with_reducible repeat (first | refine blk_drewN ?_ _ | refine blk_drew ?_ | refine blk_alloc ?_ _)); exact BK101.out) hb); have n1_ := Aside0.mk (below_step (by repeat (first | (with_reducible first | exact HB.out | apply below_alloc | apply pw_below_drewN | apply below_drew1 | refine below_set ?_ GE101.out) | exact HB.out)) hb); clear BK101; clear HB; have BK101 := n0_; have HB := n1_; clear n0_ n1_; (try clear hb); (try clear hb2); (try clear hk); (try clear hi)) | ((with_reducible refine gate_callee (f := 88) rfl ?_); refine goesL_ (some 11) rfl rfl Try.func88 (by kernel_rfl) rfl #[.slice A0 l0.length c0] rfl (by (try simp only [List.map_toArray, List.map_cons, List.map_nil]); first | done | rfl | (simp only [List.length_drop, List.length_take]; rfl)) ?_; (with_reducible refine (impl_chords.calls _ _ l0 t103 _ ?side1 ?side2 A4.out).mono ?_); (case side1 => repeat (first | exact (Kd.C_below HR0.out HB.out) | (with_reducible refine Kd.C_alloc ?_ _) | (with_reducible refine Kd.C_drewN ?_ _) | (with_reducible refine Kd.C_drew ?_))); (case side2 => exact HC0.out); rintro e w' ⟨rfl, ⟨nd, rfl⟩⟩; refine ⟨_, rfl, ?_⟩; (try (rw [drewN_self w7]; generalize hq_ : World.drewN w7 _ = w7; have n0_ : Aside0 (w7.heap[gb101]? = some (.cells #[.slice none 0 0, .slice none 0 0] 40 (0, 0))) := ⟨by rw [← hq_]; exact (by (with_reducible repeat (first | refine blk_drewN ?_ _ | refine blk_drew ?_ | refine blk_alloc ?_ _)); exact BK101.out)⟩; have n1_ : Aside0 (Below w.heap.size w w7) := ⟨by rw [← hq_]; exact (by repeat (first | (with_reducible first | exact HB.out | apply below_alloc | apply pw_below_drewN | apply below_drew1 | refine below_set ?_ GE101.out) | exact HB.out))⟩; clear BK101 HB hq_; have BK101 := n0_; have HB := n1_; clear n0_ n1_)); have hcz8_0 : w7.cell? ⟨gb101, 0, none⟩ = some (.slice none 0 0) := (blk_cell BK101.out 0).trans rfl; have hcz8_1 : w7.cell? ⟨gb101, 1, none⟩ = some (.slice none 0 0) := (blk_cell BK101.out 1).trans rfl; have hfz8_0 := blk_frozen BK101.out 0; have hfz8_1 := blk_frozen BK101.out 1))
      refine bodyPost_ret (results_ct rfl _ _ gb101 40 #[.slice none 0 0, .slice none 0 0] (0, 0) _ rfl (by (with_reducible repeat (first | refine blk_drewN ?_ _ | refine blk_drew ?_ | refine blk_alloc ?_ _)); refine blk_put (cs := #[.slice none 0 0, .slice none 0 0]) ?_ 1 _ rfl; (with_reducible repeat (first | refine blk_drewN ?_ _ | refine blk_drew ?_ | refine blk_alloc ?_ _)); refine blk_put (cs := #[.slice none 0 0, .slice none 0 0]) ?_ 0 _ rfl; (with_reducible repeat (first | refine blk_drewN ?_ _ | refine blk_drew ?_ | refine blk_alloc ?_ _)); exact BK101.out) Try.underlying40 rfl (by kernel_rfl)) rfl ?_
      exact ⟨_, _, by first | rfl | (simp [errW_none, errW_some] <;> rfl) | (simp [*, errW_none, errW_some] <;> rfl), by first | exact Kd.R_nil _ _ _ _ _ | exact Kd.N_nil _ _ _ _ _ | exact Kd.V_nil _ _ _ _ _ | exact Kd.Q_nil _ _ _ _ _ | exact Kd.S_nil _ _ _ _ _, by first | exact Kd.S_nil _ _ _ _ _ | exact Kd.N_nil _ _ _ _ _ | exact Kd.V_nil _ _ _ _ _ | exact Kd.Q_nil _ _ _ _ _ | exact Kd.R_nil _ _ _ _ _, by repeat (first | (with_reducible first | exact HB.out | apply below_alloc | apply pw_below_drewN | apply below_drew1 | refine below_set ?_ GE101.out) | exact HB.out)⟩
    · rw [if_neg c5] at H
      have c5b0 : decide (4 < t103) = false := decide_eq_false c5
      clear c5
      replace H := Option.bind_eq_some_iff.mp H
      obtain ⟨t104, A90, H⟩ := H
      replace H : (some (t104, ([] : List (List Int)), 0)) = some (r1, r2, r3) := H
      have A9 := Aside0.mk A90
      clear A90
      simp only [Option.some.injEq, Prod.mk.injEq] at H
      obtain ⟨rfl, rfl, rfl⟩ := H
      go_enter Try.func54, Try.ntmps54
      go_wp2_with (first | ((with_reducible refine gate_dst (N := 2) rfl ?_); refine box_event ?hg (N := 2) ?hd (cs := #[.slice none 0 0, .slice none 0 0]) (t := 40) ?hr ?_; (case hd => rfl); (case hg => rfl); (case hr => first | (go_simp; done) | (go_simp; rfl)); intro gb101 hg w10 hbox hb; have n0_ := Aside0.mk (below_step (by repeat (first | (with_reducible first | exact HB.out | apply below_alloc | apply pw_below_drewN | apply below_drew1) | exact HB.out)) hb); have n1_ := Aside0.mk (hbox); have n2_ := Aside0.mk ((by rw [hg]; exact (below_size (by repeat (first | (with_reducible first | exact HB.out | apply below_alloc | apply pw_below_drewN | apply below_drew1) | exact HB.out))) : w.heap.size ≤ gb101)); have n3_ := Aside0.mk ((by rw [hg]; exact (below_size (by repeat (first | (with_reducible first | exact HB.out | apply below_alloc | apply pw_below_drewN | apply below_drew1) | exact HB.out))) : w.heap.size ≤ gb101)); clear HB; have HB := n0_; have BK101 := n1_; have GW101 := n2_; have GE101 := n3_; clear n0_ n1_ n2_ n3_; clear hb hbox hg) | ((with_reducible refine gate_callee (f := 81) rfl ?_); refine goesL_ (some 6) rfl rfl Try.func81 (by kernel_rfl) rfl #[.slice A0 l0.length c0] rfl (by (try simp only [List.map_toArray, List.map_cons, List.map_nil]); first | done | rfl | (simp only [List.length_drop, List.length_take]; rfl)) ?_; (with_reducible refine (impl_IsWord.calls k _ _ l0 true _ ?side1 ?side2 A2.out).mono ?_); (case side1 => repeat (first | exact (Kd.C_below HR0.out HB.out) | (with_reducible refine Kd.C_alloc ?_ _) | (with_reducible refine Kd.C_drewN ?_ _) | (with_reducible refine Kd.C_drew ?_))); (case side2 => exact HC0.out); rintro e w11 ⟨rfl, hb⟩; refine ⟨_, rfl, ?_⟩; have n0_ := Aside0.mk (blk_below (g := gb101) (o := .cells #[.slice none 0 0, .slice none 0 0] 40 (0, 0)) (by (with_reducible repeat (first | refine blk_drewN ?_ _ | refine blk_drew ?_ | refine blk_alloc ?_ _)); exact BK101.out) hb); have n1_ := Aside0.mk (below_step (by repeat (first | (with_reducible first | exact HB.out | apply below_alloc | apply pw_below_drewN | apply below_drew1 | refine below_set ?_ GE101.out) | exact HB.out)) hb); clear BK101; clear HB; have BK101 := n0_; have HB := n1_; clear n0_ n1_; (try clear hb); (try clear hb2); (try clear hk); (try clear hi)) | ((with_reducible refine gate_callee (f := 88) rfl ?_); refine goesL_ (some 11) rfl rfl Try.func88 (by kernel_rfl) rfl #[.slice A0 l0.length c0] rfl (by (try simp only [List.map_toArray, List.map_cons, List.map_nil]); first | done | rfl | (simp only [List.length_drop, List.length_take]; rfl)) ?_; (with_reducible refine (impl_chords.calls _ _ l0 t103 _ ?side1 ?side2 A4.out).mono ?_); (case side1 => repeat (first | exact (Kd.C_below HR0.out HB.out) | (with_reducible refine Kd.C_alloc ?_ _) | (with_reducible refine Kd.C_drewN ?_ _) | (with_reducible refine Kd.C_drew ?_))); (case side2 => exact HC0.out); rintro e w' ⟨rfl, ⟨nd, rfl⟩⟩; refine ⟨_, rfl, ?_⟩; (try (rw [drewN_self w11]; generalize hq_ : World.drewN w11 _ = w11; have n0_ : Aside0 (w11.heap[gb101]? = some (.cells #[.slice none 0 0, .slice none 0 0] 40 (0, 0))) := ⟨by rw [← hq_]; exact (by (with_reducible repeat (first | refine blk_drewN ?_ _ | refine blk_drew ?_ | refine blk_alloc ?_ _)); exact BK101.out)⟩; have n1_ : Aside0 (Below w.heap.size w w11) := ⟨by rw [← hq_]; exact (by repeat (first | (with_reducible first | exact HB.out | apply below_alloc | apply pw_below_drewN | apply below_drew1 | refine below_set ?_ GE101.out) | exact HB.out))⟩; clear BK101 HB hq_; have BK101 := n0_; have HB := n1_; clear n0_ n1_))) | ((with_reducible refine gate_callee (f := 119) rfl ?_); refine goesL_ (some 15) rfl rfl Try.func119 (by kernel_rfl) rfl #[.slice A0 l0.length c0] rfl (by (try simp only [List.map_toArray, List.map_cons, List.map_nil]); first | done | rfl | (simp only [List.length_drop, List.length_take]; rfl)) ?_; (with_reducible refine (slices_Clone_int64_int64.calls _ _ l0 t104 _ ?side1 ?side2 A9.out).mono ?_); (case side1 => repeat (first | exact (Kd.C_below HR0.out HB.out) | (with_reducible refine Kd.C_alloc ?_ _) | (with_reducible refine Kd.C_drewN ?_ _) | (with_reducible refine Kd.C_drew ?_))); (case side2 => exact HC0.out); rintro e w12 ⟨v105, rfl, ho0, hb⟩; refine ⟨_, rfl, ?_⟩; have n0_ := Aside0.mk (Kd.R_lower ho0 (below_size (by repeat (first | (with_reducible first | exact HB.out | apply below_alloc | apply pw_below_drewN | apply below_drew1 | refine below_set ?_ GE101.out) | exact HB.out)))); have n1_ := Aside0.mk (blk_below (g := gb101) (o := .cells #[.slice none 0 0, .slice none 0 0] 40 (0, 0)) (by (with_reducible repeat (first | refine blk_drewN ?_ _ | refine blk_drew ?_ | refine blk_alloc ?_ _)); exact BK101.out) hb); have n2_ := Aside0.mk (below_step (by repeat (first | (with_reducible first | exact HB.out | apply below_alloc | apply pw_below_drewN | apply below_drew1 | refine below_set ?_ GE101.out) | exact HB.out)) hb); clear BK101; clear HB; have HO106 := n0_; have BK101 := n1_; have HB := n2_; clear n0_ n1_ n2_; (try clear hb); (try clear hb2); (try clear hk); (try clear hi); (try clear ho0); obtain ⟨Ao13, co13, eo13⟩ := Kd.R_slice HO106.out; subst eo13; have hcz14_0 : w12.cell? ⟨gb101, 0, none⟩ = some (.slice none 0 0) := (blk_cell BK101.out 0).trans rfl; have hcz14_1 : w12.cell? ⟨gb101, 1, none⟩ = some (.slice none 0 0) := (blk_cell BK101.out 1).trans rfl; have hfz14_0 := blk_frozen BK101.out 0; have hfz14_1 := blk_frozen BK101.out 1))
      refine bodyPost_ret (results_ct rfl _ _ gb101 40 #[.slice Ao13 t104.length co13, .slice none 0 0] (0, 0) _ rfl (by (with_reducible repeat (first | refine blk_drewN ?_ _ | refine blk_drew ?_ | refine blk_alloc ?_ _)); refine blk_put (cs := #[.slice Ao13 t104.length co13, .slice none 0 0]) ?_ 1 _ rfl; (with_reducible repeat (first | refine blk_drewN ?_ _ | refine blk_drew ?_ | refine blk_alloc ?_ _)); refine blk_put (cs := #[.slice none 0 0, .slice none 0 0]) ?_ 0 _ rfl; (with_reducible repeat (first | refine blk_drewN ?_ _ | refine blk_drew ?_ | refine blk_alloc ?_ _)); exact BK101.out) Try.underlying40 rfl (by kernel_rfl)) rfl ?_
      exact ⟨_, _, by first | rfl | (simp [errW_none, errW_some] <;> rfl) | (simp [*, errW_none, errW_some] <;> rfl), by (with_reducible repeat (first | apply Kd.R_alloc | apply Kd.R_drewN | apply Kd.R_drew)); exact Kd.R_mono (Kd.R_far (p := ⟨gb101, 1, none⟩) (Kd.R_far (p := ⟨gb101, 0, none⟩) (Kd.R_types HO106.out BK101.out (by decide)) (fun _ hk => hk.2) (.slice Ao13 t104.length co13)) (fun _ hk => hk.2) (.slice none 0 0)) (fun _ hk => trivial), by first | exact Kd.S_nil _ _ _ _ _ | exact Kd.N_nil _ _ _ _ _ | exact Kd.V_nil _ _ _ _ _ | exact Kd.Q_nil _ _ _ _ _ | exact Kd.R_nil _ _ _ _ _, by repeat (first | (with_reducible first | exact HB.out | apply below_alloc | apply pw_below_drewN | apply below_drew1 | refine below_set ?_ GE101.out) | exact HB.out)⟩
  · replace c3 := Bool.eq_false_iff.mpr c3
    subst c3
    have H1 : (some (([] : List Int), ([] : List (List Int)), 1)) = some (r1, r2, r3) := by rw [if_neg (show ¬ (false = true) by decide)] at H; exact H
    clear H
    have H := H1
    clear H1
    simp only [Option.some.injEq, Prod.mk.injEq] at H
    obtain ⟨rfl, rfl, rfl⟩ := H
    go_enter Try.func54, Try.ntmps54
    go_wp2_with (first | ((with_reducible refine gate_dst (N := 2) rfl ?_); refine box_event ?hg (N := 2) ?hd (cs := #[.slice none 0 0, .slice none 0 0]) (t := 40) ?hr ?_; (case hd => rfl); (case hg => rfl); (case hr => first | (go_simp; done) | (go_simp; rfl)); intro gb101 hg w15 hbox hb; have n0_ := Aside0.mk (below_step (by repeat (first | (with_reducible first | exact HB.out | apply below_alloc | apply pw_below_drewN | apply below_drew1) | exact HB.out)) hb); have n1_ := Aside0.mk (hbox); have n2_ := Aside0.mk ((by rw [hg]; exact (below_size (by repeat (first | (with_reducible first | exact HB.out | apply below_alloc | apply pw_below_drewN | apply below_drew1) | exact HB.out))) : w.heap.size ≤ gb101)); have n3_ := Aside0.mk ((by rw [hg]; exact (below_size (by repeat (first | (with_reducible first | exact HB.out | apply below_alloc | apply pw_below_drewN | apply below_drew1) | exact HB.out))) : w.heap.size ≤ gb101)); clear HB; have HB := n0_; have BK101 := n1_; have GW101 := n2_; have GE101 := n3_; clear n0_ n1_ n2_ n3_; clear hb hbox hg) | ((with_reducible refine gate_callee (f := 81) rfl ?_); refine goesL_ (some 6) rfl rfl Try.func81 (by kernel_rfl) rfl #[.slice A0 l0.length c0] rfl (by (try simp only [List.map_toArray, List.map_cons, List.map_nil]); first | done | rfl | (simp only [List.length_drop, List.length_take]; rfl)) ?_; (with_reducible refine (impl_IsWord.calls k _ _ l0 false _ ?side1 ?side2 A2.out).mono ?_); (case side1 => repeat (first | exact (Kd.C_below HR0.out HB.out) | (with_reducible refine Kd.C_alloc ?_ _) | (with_reducible refine Kd.C_drewN ?_ _) | (with_reducible refine Kd.C_drew ?_))); (case side2 => exact HC0.out); rintro e w16 ⟨rfl, hb⟩; refine ⟨_, rfl, ?_⟩; have n0_ := Aside0.mk (blk_below (g := gb101) (o := .cells #[.slice none 0 0, .slice none 0 0] 40 (0, 0)) (by (with_reducible repeat (first | refine blk_drewN ?_ _ | refine blk_drew ?_ | refine blk_alloc ?_ _)); exact BK101.out) hb); have n1_ := Aside0.mk (below_step (by repeat (first | (with_reducible first | exact HB.out | apply below_alloc | apply pw_below_drewN | apply below_drew1 | refine below_set ?_ GE101.out) | exact HB.out)) hb); clear BK101; clear HB; have BK101 := n0_; have HB := n1_; clear n0_ n1_; (try clear hb); (try clear hb2); (try clear hk); (try clear hi); have hcz17_0 : w16.cell? ⟨gb101, 0, none⟩ = some (.slice none 0 0) := (blk_cell BK101.out 0).trans rfl; have hcz17_1 : w16.cell? ⟨gb101, 1, none⟩ = some (.slice none 0 0) := (blk_cell BK101.out 1).trans rfl; have hfz17_0 := blk_frozen BK101.out 0; have hfz17_1 := blk_frozen BK101.out 1))
    refine bodyPost_ret (results_ct rfl _ _ gb101 40 #[.slice none 0 0, .slice none 0 0] (0, 0) _ rfl (by (with_reducible repeat (first | refine blk_drewN ?_ _ | refine blk_drew ?_ | refine blk_alloc ?_ _)); refine blk_put (cs := #[.slice none 0 0, .slice none 0 0]) ?_ 1 _ rfl; (with_reducible repeat (first | refine blk_drewN ?_ _ | refine blk_drew ?_ | refine blk_alloc ?_ _)); refine blk_put (cs := #[.slice none 0 0, .slice none 0 0]) ?_ 0 _ rfl; (with_reducible repeat (first | refine blk_drewN ?_ _ | refine blk_drew ?_ | refine blk_alloc ?_ _)); exact BK101.out) Try.underlying40 rfl (by kernel_rfl)) rfl ?_
    exact ⟨_, _, by first | rfl | (simp [errW_none, errW_some] <;> rfl) | (simp [*, errW_none, errW_some] <;> rfl), by first | exact Kd.R_nil _ _ _ _ _ | exact Kd.N_nil _ _ _ _ _ | exact Kd.V_nil _ _ _ _ _ | exact Kd.Q_nil _ _ _ _ _ | exact Kd.S_nil _ _ _ _ _, by first | exact Kd.S_nil _ _ _ _ _ | exact Kd.N_nil _ _ _ _ _ | exact Kd.V_nil _ _ _ _ _ | exact Kd.Q_nil _ _ _ _ _ | exact Kd.R_nil _ _ _ _ _, by repeat (first | (with_reducible first | exact HB.out | apply below_alloc | apply pw_below_drewN | apply below_drew1 | refine below_set ?_ GE101.out) | exact HB.out)⟩

/-! ### laws_FnExactWebOfWord: function 15, by hand -/
def laws_FnExactWebOfWord.Told (l0 : List Int) (k : Nat) (c m : Int) (g0 : List Int) (g1 : List (List Int)) (p0 : List Int) (p1 : List (List Int)) (m10 : Int) (q0 : List Int) : Prop :=
  laws_toInt64S.f k l0 = some l0 ∧ laws_eqInt64S.f k l0 l0 = some true ∧ spec_WebOfWord.f k l0 = some (g0, g1, c) ∧ impl_WebOfWord.f k l0 = some (g0, g1, c) ∧ laws_eqWeb.f k g0 g1 g0 g1 = some true ∧ laws_markInt64S.f k l0 1 = some (m10, q0) ∧ laws_markWeb.f k g0 g1 1 = some (m, p0, p1) ∧ laws_heldWeb.f k p0 p1 1 = some m ∧ 0 ≤ m ∧ 0 ≤ m10
set_option maxHeartbeats 16000000 in
set_option maxRecDepth 100000 in
theorem laws_FnExactWebOfWord.one (A0 : Option Addr) (c0 : Nat) (l0 : List Int) (w : World) (hr0 : Kd.C (Kd.int .i64) w A0 l0.length l0) (hc0 : l0.length ≤ c0) (hz0 : l0.length ≤ 1048576) (k : Nat) (c m : Int) (g0 : List Int) (g1 : List (List Int)) (p0 : List Int) (p1 : List (List Int)) (m10 : Int) (q0 : List Int) (h : laws_FnExactWebOfWord.Told l0 k c m g0 g1 p0 p1 m10 q0) :
    Calls Try.prog 15 #[.slice A0 l0.length c0] w fun e w' => e = .returned (.bool true) ∧ Below w.heap.size w w' := by
  have huB := Try.underlying40
  obtain ⟨h_FT0, h_FQ0, h_FS, h_FI, h_FE, h_FK0, h_FM, h_FH, hb_0, hb_1⟩ := h
  have FT0 := Aside0.mk h_FT0
  clear h_FT0
  have FQ0 := Aside0.mk h_FQ0
  clear h_FQ0
  have FS := Aside0.mk h_FS
  clear h_FS
  have FI := Aside0.mk h_FI
  clear h_FI
  have FE := Aside0.mk h_FE
  clear h_FE
  have FK0 := Aside0.mk h_FK0
  clear h_FK0
  have FM := Aside0.mk h_FM
  clear h_FM
  have FH := Aside0.mk h_FH
  clear h_FH
  have d3 : decide (m < 0) = false := decide_eq_false (by omega)
  have d2 : decide (m10 < 0) = false := decide_eq_false (by omega)
  have da0 : decide (1048576 < l0.length) = false := decide_eq_false (by omega)
  have db0 : decide ((1048576 : Int) < (l0.length : Int)) = false := decide_eq_false (by omega)
  clear hb_0 hb_1
  have HA0 := Aside0.mk hr0
  have HC0 := Aside0.mk hc0
  clear hr0 hc0 hz0
  go_enter Try.func15, Try.ntmps15
  have BQ := Aside0.mk (Below.refl w.heap.size w)
  go_wp2_with fail
  refine (laws_toInt64S.calls k _ _ l0 l0 _ (Kd.C_below HA0.out BQ.out) HC0.out FT0.out).mono ?_
  rintro e w1 ⟨u0, rfl, o0, hb⟩
  have Ra0_0 := Aside0.mk o0
  have Ba0 := Aside0.mk hb
  clear o0 hb
  obtain ⟨Aa0_0, ca0_0, rfl⟩ := Kd.R_slice Ra0_0.out
  have n_ := Aside0.mk (below_step BQ.out Ba0.out)
  clear BQ
  have BQ := n_
  clear n_
  go_wp2_with fail
  refine (spec_WebOfWord.calls k _ _ l0 g0 g1 c _ (Kd.R_reads' Ra0_0.out).2.2 (Kd.R_reads' Ra0_0.out).2.1 FS.out).mono ?_
  rintro e w2 ⟨u0, u1, rfl, o0, o1, hb⟩
  have Rs_0 := Aside0.mk o0
  have Rs_1 := Aside0.mk o1
  have Bs := Aside0.mk hb
  clear o0 o1 hb
  obtain ⟨As_0, cs_0, rfl⟩ := Kd.R_slice Rs_0.out
  obtain ⟨As_1, cs_1, rfl⟩ := Kd.S_slice Rs_1.out
  have n_ := Aside0.mk (below_step BQ.out Bs.out)
  clear BQ
  have BQ := n_
  clear n_
  have n_ := Aside0.mk (Kd.R_below Ra0_0.out Bs.out)
  clear Ra0_0
  have Ra0_0 := n_
  clear n_
  clear Ra0_0
  have BW0 := BQ
  clear BQ
  have K0_0 := Aside0.mk (Kd.R_reads' Rs_0.out).2.2
  have LE0 := Aside0.mk (Kd.R_reads' Rs_0.out).2.1
  have K0_1 := Aside0.mk (Kd.S_reads' Rs_1.out).2.2
  have LE1 := Aside0.mk (Kd.S_reads' Rs_1.out).2.1
  clear Rs_0
  clear Rs_1
  have zWa0_0 : (w2.alloc (.cells #[.slice As_0 g0.length cs_0, .slice As_1 g1.length cs_1] 40)).cell? ⟨w2.heap.size, 0, none⟩ = some (.slice As_0 g0.length cs_0) := (blk_cell (blk_new _ _) 0).trans rfl
  have zWa0_1 : (w2.alloc (.cells #[.slice As_0 g0.length cs_0, .slice As_1 g1.length cs_1] 40)).cell? ⟨w2.heap.size, 1, none⟩ = some (.slice As_1 g1.length cs_1) := (blk_cell (blk_new _ _) 1).trans rfl
  go_wp2_with fail
  obtain ⟨wr, hwr_⟩ : ∃ x_ : World, w2.alloc (.cells #[.slice As_0 g0.length cs_0, .slice As_1 g1.length cs_1] 40) = x_ := ⟨_, rfl⟩
  rw [hwr_]
  have Bwr : Aside0 (Below w2.heap.size w2 wr) := ⟨by rw [← hwr_]; exact below_alloc (Below.refl _ _) _⟩
  have BKW : Aside0 (wr.heap[w2.heap.size]? = some (.cells #[.slice As_0 g0.length cs_0, .slice As_1 g1.length cs_1] 40 (0, 0))) := ⟨by rw [← hwr_]; exact blk_new _ _⟩
  clear hwr_
  have sWwr := blk_lt BKW.out
  have BW := Aside0.mk (below_step BW0.out Bwr.out)
  have K0 := Aside0.mk (Kd.C_below K0_0.out Bwr.out)
  clear K0_0
  have K1 := Aside0.mk (Kd.C_below K0_1.out Bwr.out)
  clear K0_1
  have BR := Aside0.mk (Below.refl wr.heap.size wr)
  refine (laws_toInt64S.calls k _ _ l0 l0 _ (Kd.C_below HA0.out (below_then BW.out BW.out.size BR.out)) HC0.out FT0.out).mono ?_
  rintro e w3 ⟨u0, rfl, o0, hb⟩
  clear zWa0_0 zWa0_1
  have Rx0_0 := Aside0.mk o0
  have Bx0 := Aside0.mk hb
  clear o0 hb
  obtain ⟨Ax0_0, cx0_0, rfl⟩ := Kd.R_slice Rx0_0.out
  have n_ := Aside0.mk (below_step BR.out Bx0.out)
  clear BR
  have BR := n_
  clear n_
  have n_ := Aside0.mk (blk_below BKW.out Bx0.out)
  clear BKW
  have BKW := n_
  clear n_
  have zx := BR.out.size
  have XLT0 := Aside0.mk (Kd.R_lt Rx0_0.out)
  have XGE0 := Aside0.mk (Kd.R_base Rx0_0.out)
  have zW_0 : w3.cell? ⟨w2.heap.size, 0, none⟩ = some (.slice As_0 g0.length cs_0) := (blk_cell (BKW.out) 0).trans rfl
  have zW_1 : w3.cell? ⟨w2.heap.size, 1, none⟩ = some (.slice As_1 g1.length cs_1) := (blk_cell (BKW.out) 1).trans rfl
  go_wp2_with fail
  refine (impl_WebOfWord.calls k _ _ l0 g0 g1 c _ (Kd.R_reads' Rx0_0.out).2.2 (Kd.R_reads' Rx0_0.out).2.1 FI.out).mono ?_
  rintro e w4 ⟨u0, u1, rfl, o0, o1, hb⟩
  clear zW_0 zW_1
  have Rg_0 := Aside0.mk o0
  have Rg_1 := Aside0.mk o1
  have Bg := Aside0.mk hb
  clear o0 o1 hb
  obtain ⟨Ag_0, cg_0, rfl⟩ := Kd.R_slice Rg_0.out
  obtain ⟨Ag_1, cg_1, rfl⟩ := Kd.S_slice Rg_1.out
  have n_ := Aside0.mk (below_step BR.out Bg.out)
  clear BR
  have BR := n_
  clear n_
  have n_ := Aside0.mk (Kd.R_below Rx0_0.out Bg.out)
  clear Rx0_0
  have Rx0_0 := n_
  clear n_
  have n_ := Aside0.mk (blk_below BKW.out Bg.out)
  clear BKW
  have BKW := n_
  clear n_
  have n_ := Aside0.mk (Kd.R_mono (ok' := fun k_ => (w3.heap.size ≤ k_ ∧ k_ < w4.heap.size) ∧ (True)) (Kd.R_bound Rg_0.out) (fun k_ h_ => ⟨⟨h_.2.1, h_.2.2.1⟩, h_.1⟩))
  clear Rg_0
  have Rg_0 := n_
  clear n_
  have n_ := Aside0.mk (Kd.S_mono (ok' := fun k_ => (w3.heap.size ≤ k_ ∧ k_ < w4.heap.size) ∧ (some k_ ≠ (.slice Ag_0 g0.length cg_0 : Value).ownBlock)) (Kd.S_bound Rg_1.out) (fun k_ h_ => ⟨⟨h_.2.1, h_.2.2.1⟩, h_.1⟩))
  clear Rg_1
  have Rg_1 := n_
  clear n_
  have zg := Bg.out.size
  have zW_0 : w4.cell? ⟨w2.heap.size, 0, none⟩ = some (.slice As_0 g0.length cs_0) := (blk_cell (BKW.out) 0).trans rfl
  have zW_1 : w4.cell? ⟨w2.heap.size, 1, none⟩ = some (.slice As_1 g1.length cs_1) := (blk_cell (BKW.out) 1).trans rfl
  have zWa0_0 : (w4.alloc (.cells #[.slice Ag_0 g0.length cg_0, .slice Ag_1 g1.length cg_1] 40)).cell? ⟨w2.heap.size, 0, none⟩ = some (.slice As_0 g0.length cs_0) := (blk_cell (blk_alloc BKW.out _) 0).trans rfl
  have zWa0_1 : (w4.alloc (.cells #[.slice Ag_0 g0.length cg_0, .slice Ag_1 g1.length cg_1] 40)).cell? ⟨w2.heap.size, 1, none⟩ = some (.slice As_1 g1.length cs_1) := (blk_cell (blk_alloc BKW.out _) 1).trans rfl
  have zGa0_0 : (w4.alloc (.cells #[.slice Ag_0 g0.length cg_0, .slice Ag_1 g1.length cg_1] 40)).cell? ⟨w4.heap.size, 0, none⟩ = some (.slice Ag_0 g0.length cg_0) := (blk_cell (blk_new _ _) 0).trans rfl
  have zGa0_1 : (w4.alloc (.cells #[.slice Ag_0 g0.length cg_0, .slice Ag_1 g1.length cg_1] 40)).cell? ⟨w4.heap.size, 1, none⟩ = some (.slice Ag_1 g1.length cg_1) := (blk_cell (blk_new _ _) 1).trans rfl
  go_wp2_with fail
  obtain ⟨wg, hwg_⟩ : ∃ x_ : World, w4.alloc (.cells #[.slice Ag_0 g0.length cg_0, .slice Ag_1 g1.length cg_1] 40) = x_ := ⟨_, rfl⟩
  rw [hwg_]
  have Bwg : Aside0 (Below w4.heap.size w4 wg) := ⟨by rw [← hwg_]; exact below_alloc (Below.refl _ _) _⟩
  have BKG : Aside0 (wg.heap[w4.heap.size]? = some (.cells #[.slice Ag_0 g0.length cg_0, .slice Ag_1 g1.length cg_1] 40 (0, 0))) := ⟨by rw [← hwg_]; exact blk_new _ _⟩
  clear hwg_
  have n_ := Aside0.mk (blk_below BKW.out Bwg.out)
  clear BKW
  have BKW := n_
  clear n_
  have sWwg := blk_lt BKW.out
  have sGwg := blk_lt BKG.out
  have n_ := Aside0.mk (below_step BR.out Bwg.out)
  clear BR
  have BR := n_
  clear n_
  have n_ := Aside0.mk (Kd.R_below Rx0_0.out Bwg.out)
  clear Rx0_0
  have Rx0_0 := n_
  clear n_
  have n_ := Aside0.mk (Kd.R_below Rg_0.out Bwg.out)
  clear Rg_0
  have Rg_0 := n_
  clear n_
  have n_ := Aside0.mk (Kd.S_below Rg_1.out Bwg.out)
  clear Rg_1
  have Rg_1 := n_
  clear n_
  refine (laws_eqWeb.calls k _ _ g0 _ _ g1 _ _ g0 _ _ g1 true _ (Kd.R_reads' Rg_0.out).2.2 (Kd.R_reads' Rg_0.out).2.1 (Kd.S_reads' Rg_1.out).2.2 (Kd.S_reads' Rg_1.out).2.1 (Kd.C_below K0.out BR.out) LE0.out (Kd.C_below K1.out BR.out) LE1.out FE.out).mono ?_
  rintro e w5 ⟨rfl, hb⟩
  clear zW_0 zW_1 zWa0_0 zWa0_1 zGa0_0 zGa0_1
  have Be5 := Aside0.mk (hb)
  clear hb
  have n_ := Aside0.mk (below_step BR.out Be5.out)
  clear BR
  have BR := n_
  clear n_
  have n_ := Aside0.mk (Kd.R_below Rx0_0.out Be5.out)
  clear Rx0_0
  have Rx0_0 := n_
  clear n_
  have n_ := Aside0.mk (Kd.R_below Rg_0.out Be5.out)
  clear Rg_0
  have Rg_0 := n_
  clear n_
  have n_ := Aside0.mk (Kd.S_below Rg_1.out Be5.out)
  clear Rg_1
  have Rg_1 := n_
  clear n_
  have n_ := Aside0.mk (blk_below BKW.out Be5.out)
  clear BKW
  have BKW := n_
  clear n_
  have n_ := Aside0.mk (blk_below BKG.out Be5.out)
  clear BKG
  have BKG := n_
  clear n_
  have zW_0 : w5.cell? ⟨w2.heap.size, 0, none⟩ = some (.slice As_0 g0.length cs_0) := (blk_cell (BKW.out) 0).trans rfl
  have zW_1 : w5.cell? ⟨w2.heap.size, 1, none⟩ = some (.slice As_1 g1.length cs_1) := (blk_cell (BKW.out) 1).trans rfl
  have zG_0 : w5.cell? ⟨w4.heap.size, 0, none⟩ = some (.slice Ag_0 g0.length cg_0) := (blk_cell (BKG.out) 0).trans rfl
  have zG_1 : w5.cell? ⟨w4.heap.size, 1, none⟩ = some (.slice Ag_1 g1.length cg_1) := (blk_cell (BKG.out) 1).trans rfl
  go_wp2_with fail
  refine (laws_toInt64S.calls k _ _ l0 l0 _ (Kd.C_below HA0.out (below_then BW.out BW.out.size BR.out)) HC0.out FT0.out).mono ?_
  rintro e w6 ⟨u0, rfl, o0, hb⟩
  clear zW_0 zW_1 zG_0 zG_1
  have Rq0_0 := Aside0.mk o0
  have Bq0 := Aside0.mk hb
  clear o0 hb
  obtain ⟨Aq0_0, cq0_0, rfl⟩ := Kd.R_slice Rq0_0.out
  have n_ := Aside0.mk (Kd.R_lower Rq0_0.out BR.out.size)
  clear Rq0_0
  have Rq0_0 := n_
  clear n_
  have n_ := Aside0.mk (below_step BR.out Bq0.out)
  clear BR
  have BR := n_
  clear n_
  have n_ := Aside0.mk (Kd.R_below Rx0_0.out Bq0.out)
  clear Rx0_0
  have Rx0_0 := n_
  clear n_
  have n_ := Aside0.mk (Kd.R_below Rg_0.out Bq0.out)
  clear Rg_0
  have Rg_0 := n_
  clear n_
  have n_ := Aside0.mk (Kd.S_below Rg_1.out Bq0.out)
  clear Rg_1
  have Rg_1 := n_
  clear n_
  have n_ := Aside0.mk (blk_below BKW.out Bq0.out)
  clear BKW
  have BKW := n_
  clear n_
  have n_ := Aside0.mk (blk_below BKG.out Bq0.out)
  clear BKG
  have BKG := n_
  clear n_
  have zW_0 : w6.cell? ⟨w2.heap.size, 0, none⟩ = some (.slice As_0 g0.length cs_0) := (blk_cell (BKW.out) 0).trans rfl
  have zW_1 : w6.cell? ⟨w2.heap.size, 1, none⟩ = some (.slice As_1 g1.length cs_1) := (blk_cell (BKW.out) 1).trans rfl
  have zG_0 : w6.cell? ⟨w4.heap.size, 0, none⟩ = some (.slice Ag_0 g0.length cg_0) := (blk_cell (BKG.out) 0).trans rfl
  have zG_1 : w6.cell? ⟨w4.heap.size, 1, none⟩ = some (.slice Ag_1 g1.length cg_1) := (blk_cell (BKG.out) 1).trans rfl
  go_wp2_with fail
  refine (laws_eqInt64S.calls k _ _ l0 _ _ l0 true _ (Kd.R_reads' Rx0_0.out).2.2 (Kd.R_reads' Rx0_0.out).2.1 (Kd.R_reads' Rq0_0.out).2.2 (Kd.R_reads' Rq0_0.out).2.1 FQ0.out).mono ?_
  rintro e w7 ⟨rfl, hb⟩
  clear zW_0 zW_1 zG_0 zG_1
  have Be7 := Aside0.mk hb.below
  clear hb
  clear Rq0_0
  have n_ := Aside0.mk (below_step BR.out Be7.out)
  clear BR
  have BR := n_
  clear n_
  have n_ := Aside0.mk (Kd.R_below Rx0_0.out Be7.out)
  clear Rx0_0
  have Rx0_0 := n_
  clear n_
  have n_ := Aside0.mk (Kd.R_below Rg_0.out Be7.out)
  clear Rg_0
  have Rg_0 := n_
  clear n_
  have n_ := Aside0.mk (Kd.S_below Rg_1.out Be7.out)
  clear Rg_1
  have Rg_1 := n_
  clear n_
  have n_ := Aside0.mk (blk_below BKW.out Be7.out)
  clear BKW
  have BKW := n_
  clear n_
  have n_ := Aside0.mk (blk_below BKG.out Be7.out)
  clear BKG
  have BKG := n_
  clear n_
  have zW_0 : w7.cell? ⟨w2.heap.size, 0, none⟩ = some (.slice As_0 g0.length cs_0) := (blk_cell (BKW.out) 0).trans rfl
  have zW_1 : w7.cell? ⟨w2.heap.size, 1, none⟩ = some (.slice As_1 g1.length cs_1) := (blk_cell (BKW.out) 1).trans rfl
  have zG_0 : w7.cell? ⟨w4.heap.size, 0, none⟩ = some (.slice Ag_0 g0.length cg_0) := (blk_cell (BKG.out) 0).trans rfl
  have zG_1 : w7.cell? ⟨w4.heap.size, 1, none⟩ = some (.slice Ag_1 g1.length cg_1) := (blk_cell (BKG.out) 1).trans rfl
  go_wp2_with fail
  refine (laws_markInt64S.calls k (fun k_ => some k_ = (.slice Ax0_0 l0.length cx0_0 : Value).ownBlock) _ l0 1 m10 q0 wr _ BR.out (Kd.R_tight rfl Rx0_0.out) FK0.out).mono ?_
  rintro e w8 ⟨rfl, o0, hb, hk⟩
  clear zW_0 zW_1 zG_0 zG_1
  have BRn := Aside0.mk hb
  clear o0 hb
  clear BR
  have BR := BRn
  clear BRn
  have n_ := Aside0.mk (Kd.R_kept Rg_0.out hk (fun k_ h_ hs_ => by have := XLT0.out k_ hs_.symm; have := h_.1.1; omega))
  clear Rg_0
  have Rg_0 := n_
  clear n_
  have n_ := Aside0.mk (Kd.S_kept Rg_1.out hk (fun k_ h_ hs_ => by have := XLT0.out k_ hs_.symm; have := h_.1.1; omega))
  clear Rg_1
  have Rg_1 := n_
  clear n_
  have n_ := Aside0.mk (blk_kept BKW.out hk (fun hs_ => by have := XLT0.out _ hs_.symm; have := XGE0.out _ hs_.symm; omega))
  clear BKW
  have BKW := n_
  clear n_
  have n_ := Aside0.mk (blk_kept BKG.out hk (fun hs_ => by have := XLT0.out _ hs_.symm; have := XGE0.out _ hs_.symm; omega))
  clear BKG
  have BKG := n_
  clear n_
  clear Rx0_0
  clear hk
  have zW_0 : w8.cell? ⟨w2.heap.size, 0, none⟩ = some (.slice As_0 g0.length cs_0) := (blk_cell (BKW.out) 0).trans rfl
  have zW_1 : w8.cell? ⟨w2.heap.size, 1, none⟩ = some (.slice As_1 g1.length cs_1) := (blk_cell (BKW.out) 1).trans rfl
  have zG_0 : w8.cell? ⟨w4.heap.size, 0, none⟩ = some (.slice Ag_0 g0.length cg_0) := (blk_cell (BKG.out) 0).trans rfl
  have zG_1 : w8.cell? ⟨w4.heap.size, 1, none⟩ = some (.slice Ag_1 g1.length cg_1) := (blk_cell (BKG.out) 1).trans rfl
  go_wp2_with fail
  refine (laws_eqWeb.calls k _ _ g0 _ _ g1 _ _ g0 _ _ g1 true _ (Kd.R_reads' Rg_0.out).2.2 (Kd.R_reads' Rg_0.out).2.1 (Kd.S_reads' Rg_1.out).2.2 (Kd.S_reads' Rg_1.out).2.1 (Kd.C_below K0.out BR.out) LE0.out (Kd.C_below K1.out BR.out) LE1.out FE.out).mono ?_
  rintro e w9 ⟨rfl, hb⟩
  clear zW_0 zW_1 zG_0 zG_1
  have Be9 := Aside0.mk (hb)
  clear hb
  have n_ := Aside0.mk (below_step BR.out Be9.out)
  clear BR
  have BR := n_
  clear n_
  have n_ := Aside0.mk (Kd.R_below Rg_0.out Be9.out)
  clear Rg_0
  have Rg_0 := n_
  clear n_
  have n_ := Aside0.mk (Kd.S_below Rg_1.out Be9.out)
  clear Rg_1
  have Rg_1 := n_
  clear n_
  have n_ := Aside0.mk (blk_below BKW.out Be9.out)
  clear BKW
  have BKW := n_
  clear n_
  have n_ := Aside0.mk (blk_below BKG.out Be9.out)
  clear BKG
  have BKG := n_
  clear n_
  have n_ := Aside0.mk (Kd.R_lower Rg_0.out zx)
  clear Rg_0
  have Rg_0 := n_
  clear n_
  have n_ := Aside0.mk (Kd.S_lower Rg_1.out zx)
  clear Rg_1
  have Rg_1 := n_
  clear n_
  have zW_0 : w9.cell? ⟨w2.heap.size, 0, none⟩ = some (.slice As_0 g0.length cs_0) := (blk_cell (BKW.out) 0).trans rfl
  have zW_1 : w9.cell? ⟨w2.heap.size, 1, none⟩ = some (.slice As_1 g1.length cs_1) := (blk_cell (BKW.out) 1).trans rfl
  have zG_0 : w9.cell? ⟨w4.heap.size, 0, none⟩ = some (.slice Ag_0 g0.length cg_0) := (blk_cell (BKG.out) 0).trans rfl
  have zG_1 : w9.cell? ⟨w4.heap.size, 1, none⟩ = some (.slice Ag_1 g1.length cg_1) := (blk_cell (BKG.out) 1).trans rfl
  go_wp2_with fail
  refine (laws_markWeb.calls k (fun k_ => some k_ = (.slice Ag_0 g0.length cg_0 : Value).ownBlock) _ _ _ g0 g1 1 m p0 p1 wr _ BR.out (Kd.R_tight rfl Rg_0.out) Rg_1.out (fun k_ h1_ h2_ => h2_.2 h1_) FM.out).mono ?_
  rintro e w10 ⟨rfl, o0, o1, hb, hk⟩
  clear zW_0 zW_1 zG_0 zG_1
  have BRn := Aside0.mk hb
  clear hb BR
  have BR := BRn
  clear BRn
  have Rm_0 := Aside0.mk o0
  have Rm_1 := Aside0.mk o1
  clear o0 o1
  have n_ := Aside0.mk (blk_kept BKW.out hk (fun hs_ => by rcases hs_ with hs_ | hs_; (have := (Rg_0.out.1 _ hs_.symm).1; omega); (have := hs_.1; omega)))
  clear BKW
  have BKW := n_
  clear n_
  have n_ := Aside0.mk (blk_kept BKG.out hk (fun hs_ => by rcases hs_ with hs_ | hs_; (have := (Rg_0.out.1 _ hs_.symm).1; omega); (have := hs_.1; omega)))
  clear BKG
  have BKG := n_
  clear n_
  clear hk
  clear Rg_0
  clear Rg_1
  have zW_0 : w10.cell? ⟨w2.heap.size, 0, none⟩ = some (.slice As_0 g0.length cs_0) := (blk_cell (BKW.out) 0).trans rfl
  have zW_1 : w10.cell? ⟨w2.heap.size, 1, none⟩ = some (.slice As_1 g1.length cs_1) := (blk_cell (BKW.out) 1).trans rfl
  have zG_0 : w10.cell? ⟨w4.heap.size, 0, none⟩ = some (.slice Ag_0 g0.length cg_0) := (blk_cell (BKG.out) 0).trans rfl
  have zG_1 : w10.cell? ⟨w4.heap.size, 1, none⟩ = some (.slice Ag_1 g1.length cg_1) := (blk_cell (BKG.out) 1).trans rfl
  go_wp2_with fail
  have e0_ := (Kd.R_reads' Rm_0.out).1
  have e1_ := (Kd.S_reads' Rm_1.out).1
  have hh_ := laws_heldWeb.calls k _ _ p0 _ _ p1 1 m _ (Kd.R_reads' Rm_0.out).2.2 (by rw [← e0_]; exact (Kd.R_reads' Rm_0.out).2.1) (Kd.S_reads' Rm_1.out).2.2 (by rw [← e1_]; exact (Kd.S_reads' Rm_1.out).2.1) FH.out
  rw [← e0_, ← e1_] at hh_
  clear e0_ e1_
  refine hh_.mono ?_
  clear hh_
  rintro e w11 ⟨rfl, hb⟩
  clear zW_0 zW_1 zG_0 zG_1
  have Bh11 := Aside0.mk (hb)
  clear hb
  have n_ := Aside0.mk (below_step BR.out Bh11.out)
  clear BR
  have BR := n_
  clear n_
  have n_ := Aside0.mk (Kd.R_below Rm_0.out Bh11.out)
  clear Rm_0
  have Rm_0 := n_
  clear n_
  have n_ := Aside0.mk (Kd.S_below Rm_1.out Bh11.out)
  clear Rm_1
  have Rm_1 := n_
  clear n_
  have n_ := Aside0.mk (blk_below BKW.out Bh11.out)
  clear BKW
  have BKW := n_
  clear n_
  have n_ := Aside0.mk (blk_below BKG.out Bh11.out)
  clear BKG
  have BKG := n_
  clear n_
  have zW_0 : w11.cell? ⟨w2.heap.size, 0, none⟩ = some (.slice As_0 g0.length cs_0) := (blk_cell (BKW.out) 0).trans rfl
  have zW_1 : w11.cell? ⟨w2.heap.size, 1, none⟩ = some (.slice As_1 g1.length cs_1) := (blk_cell (BKW.out) 1).trans rfl
  have zG_0 : w11.cell? ⟨w4.heap.size, 0, none⟩ = some (.slice Ag_0 g0.length cg_0) := (blk_cell (BKG.out) 0).trans rfl
  have zG_1 : w11.cell? ⟨w4.heap.size, 1, none⟩ = some (.slice Ag_1 g1.length cg_1) := (blk_cell (BKG.out) 1).trans rfl
  go_wp2_with fail
  refine (laws_toInt64S.calls k _ _ l0 l0 _ (Kd.C_below HA0.out (below_then BW.out BW.out.size BR.out)) HC0.out FT0.out).mono ?_
  rintro e w12 ⟨u0, rfl, o0, hb⟩
  clear zW_0 zW_1 zG_0 zG_1
  have Rh0_0 := Aside0.mk o0
  have Bh0 := Aside0.mk hb
  clear o0 hb
  obtain ⟨Ah0_0, ch0_0, rfl⟩ := Kd.R_slice Rh0_0.out
  have n_ := Aside0.mk (Kd.R_lower Rh0_0.out BR.out.size)
  clear Rh0_0
  have Rh0_0 := n_
  clear n_
  have n_ := Aside0.mk (below_step BR.out Bh0.out)
  clear BR
  have BR := n_
  clear n_
  have n_ := Aside0.mk (Kd.R_below Rm_0.out Bh0.out)
  clear Rm_0
  have Rm_0 := n_
  clear n_
  have n_ := Aside0.mk (Kd.S_below Rm_1.out Bh0.out)
  clear Rm_1
  have Rm_1 := n_
  clear n_
  have n_ := Aside0.mk (blk_below BKW.out Bh0.out)
  clear BKW
  have BKW := n_
  clear n_
  have n_ := Aside0.mk (blk_below BKG.out Bh0.out)
  clear BKG
  have BKG := n_
  clear n_
  have zW_0 : w12.cell? ⟨w2.heap.size, 0, none⟩ = some (.slice As_0 g0.length cs_0) := (blk_cell (BKW.out) 0).trans rfl
  have zW_1 : w12.cell? ⟨w2.heap.size, 1, none⟩ = some (.slice As_1 g1.length cs_1) := (blk_cell (BKW.out) 1).trans rfl
  have zG_0 : w12.cell? ⟨w4.heap.size, 0, none⟩ = some (.slice Ag_0 g0.length cg_0) := (blk_cell (BKG.out) 0).trans rfl
  have zG_1 : w12.cell? ⟨w4.heap.size, 1, none⟩ = some (.slice Ag_1 g1.length cg_1) := (blk_cell (BKG.out) 1).trans rfl
  go_wp2_with fail
  refine (impl_WebOfWord.calls k _ _ l0 g0 g1 c _ (Kd.R_reads' Rh0_0.out).2.2 (Kd.R_reads' Rh0_0.out).2.1 FI.out).mono ?_
  rintro e w13 ⟨u0, u1, rfl, o0, o1, hb⟩
  clear zW_0 zW_1 zG_0 zG_1
  have Ry_0 := Aside0.mk o0
  have Ry_1 := Aside0.mk o1
  have By := Aside0.mk hb
  clear o0 o1 hb
  obtain ⟨Ay_0, cy_0, rfl⟩ := Kd.R_slice Ry_0.out
  obtain ⟨Ay_1, cy_1, rfl⟩ := Kd.S_slice Ry_1.out
  have n_ := Aside0.mk (below_step BR.out By.out)
  clear BR
  have BR := n_
  clear n_
  have n_ := Aside0.mk (Kd.R_below Rm_0.out By.out)
  clear Rm_0
  have Rm_0 := n_
  clear n_
  have n_ := Aside0.mk (Kd.S_below Rm_1.out By.out)
  clear Rm_1
  have Rm_1 := n_
  clear n_
  have n_ := Aside0.mk (Kd.R_below Rh0_0.out By.out)
  clear Rh0_0
  have Rh0_0 := n_
  clear n_
  have n_ := Aside0.mk (blk_below BKW.out By.out)
  clear BKW
  have BKW := n_
  clear n_
  have n_ := Aside0.mk (blk_below BKG.out By.out)
  clear BKG
  have BKG := n_
  clear n_
  clear Rh0_0
  have zW_0 : w13.cell? ⟨w2.heap.size, 0, none⟩ = some (.slice As_0 g0.length cs_0) := (blk_cell (BKW.out) 0).trans rfl
  have zW_1 : w13.cell? ⟨w2.heap.size, 1, none⟩ = some (.slice As_1 g1.length cs_1) := (blk_cell (BKW.out) 1).trans rfl
  have zG_0 : w13.cell? ⟨w4.heap.size, 0, none⟩ = some (.slice Ag_0 g0.length cg_0) := (blk_cell (BKG.out) 0).trans rfl
  have zG_1 : w13.cell? ⟨w4.heap.size, 1, none⟩ = some (.slice Ag_1 g1.length cg_1) := (blk_cell (BKG.out) 1).trans rfl
  have zWa0_0 : (w13.alloc (.cells #[.slice Ay_0 g0.length cy_0, .slice Ay_1 g1.length cy_1] 40)).cell? ⟨w2.heap.size, 0, none⟩ = some (.slice As_0 g0.length cs_0) := (blk_cell (blk_alloc BKW.out _) 0).trans rfl
  have zWa0_1 : (w13.alloc (.cells #[.slice Ay_0 g0.length cy_0, .slice Ay_1 g1.length cy_1] 40)).cell? ⟨w2.heap.size, 1, none⟩ = some (.slice As_1 g1.length cs_1) := (blk_cell (blk_alloc BKW.out _) 1).trans rfl
  have zGa0_0 : (w13.alloc (.cells #[.slice Ay_0 g0.length cy_0, .slice Ay_1 g1.length cy_1] 40)).cell? ⟨w4.heap.size, 0, none⟩ = some (.slice Ag_0 g0.length cg_0) := (blk_cell (blk_alloc BKG.out _) 0).trans rfl
  have zGa0_1 : (w13.alloc (.cells #[.slice Ay_0 g0.length cy_0, .slice Ay_1 g1.length cy_1] 40)).cell? ⟨w4.heap.size, 1, none⟩ = some (.slice Ag_1 g1.length cg_1) := (blk_cell (blk_alloc BKG.out _) 1).trans rfl
  have zYa0_0 : (w13.alloc (.cells #[.slice Ay_0 g0.length cy_0, .slice Ay_1 g1.length cy_1] 40)).cell? ⟨w13.heap.size, 0, none⟩ = some (.slice Ay_0 g0.length cy_0) := (blk_cell (blk_new _ _) 0).trans rfl
  have zYa0_1 : (w13.alloc (.cells #[.slice Ay_0 g0.length cy_0, .slice Ay_1 g1.length cy_1] 40)).cell? ⟨w13.heap.size, 1, none⟩ = some (.slice Ay_1 g1.length cy_1) := (blk_cell (blk_new _ _) 1).trans rfl
  go_wp2_with fail
  obtain ⟨wy, hwy_⟩ : ∃ x_ : World, w13.alloc (.cells #[.slice Ay_0 g0.length cy_0, .slice Ay_1 g1.length cy_1] 40) = x_ := ⟨_, rfl⟩
  rw [hwy_]
  have Bwy : Aside0 (Below w13.heap.size w13 wy) := ⟨by rw [← hwy_]; exact below_alloc (Below.refl _ _) _⟩
  have BKY : Aside0 (wy.heap[w13.heap.size]? = some (.cells #[.slice Ay_0 g0.length cy_0, .slice Ay_1 g1.length cy_1] 40 (0, 0))) := ⟨by rw [← hwy_]; exact blk_new _ _⟩
  clear hwy_
  have n_ := Aside0.mk (blk_below BKW.out Bwy.out)
  clear BKW
  have BKW := n_
  clear n_
  have n_ := Aside0.mk (blk_below BKG.out Bwy.out)
  clear BKG
  have BKG := n_
  clear n_
  have sWwy := blk_lt BKW.out
  have sGwy := blk_lt BKG.out
  have sYwy := blk_lt BKY.out
  have n_ := Aside0.mk (below_step BR.out Bwy.out)
  clear BR
  have BR := n_
  clear n_
  have n_ := Aside0.mk (Kd.R_below Rm_0.out Bwy.out)
  clear Rm_0
  have Rm_0 := n_
  clear n_
  have n_ := Aside0.mk (Kd.S_below Rm_1.out Bwy.out)
  clear Rm_1
  have Rm_1 := n_
  clear n_
  have n_ := Aside0.mk (Kd.R_below Ry_0.out Bwy.out)
  clear Ry_0
  have Ry_0 := n_
  clear n_
  have n_ := Aside0.mk (Kd.S_below Ry_1.out Bwy.out)
  clear Ry_1
  have Ry_1 := n_
  clear n_
  refine (laws_eqWeb.calls k _ _ g0 _ _ g1 _ _ g0 _ _ g1 true _ (Kd.R_reads' Ry_0.out).2.2 (Kd.R_reads' Ry_0.out).2.1 (Kd.S_reads' Ry_1.out).2.2 (Kd.S_reads' Ry_1.out).2.1 (Kd.C_below K0.out BR.out) LE0.out (Kd.C_below K1.out BR.out) LE1.out FE.out).mono ?_
  rintro e w14 ⟨rfl, hb⟩
  clear zW_0 zW_1 zG_0 zG_1 zWa0_0 zWa0_1 zGa0_0 zGa0_1 zYa0_0 zYa0_1
  have Be14 := Aside0.mk (hb)
  clear hb
  have n_ := Aside0.mk (below_step BR.out Be14.out)
  clear BR
  have BR := n_
  clear n_
  have n_ := Aside0.mk (Kd.R_below Rm_0.out Be14.out)
  clear Rm_0
  have Rm_0 := n_
  clear n_
  have n_ := Aside0.mk (Kd.S_below Rm_1.out Be14.out)
  clear Rm_1
  have Rm_1 := n_
  clear n_
  have n_ := Aside0.mk (Kd.R_below Ry_0.out Be14.out)
  clear Ry_0
  have Ry_0 := n_
  clear n_
  have n_ := Aside0.mk (Kd.S_below Ry_1.out Be14.out)
  clear Ry_1
  have Ry_1 := n_
  clear n_
  have n_ := Aside0.mk (blk_below BKW.out Be14.out)
  clear BKW
  have BKW := n_
  clear n_
  have n_ := Aside0.mk (blk_below BKG.out Be14.out)
  clear BKG
  have BKG := n_
  clear n_
  have n_ := Aside0.mk (blk_below BKY.out Be14.out)
  clear BKY
  have BKY := n_
  clear n_
  clear Ry_0
  clear Ry_1
  have zW_0 : w14.cell? ⟨w2.heap.size, 0, none⟩ = some (.slice As_0 g0.length cs_0) := (blk_cell (BKW.out) 0).trans rfl
  have zW_1 : w14.cell? ⟨w2.heap.size, 1, none⟩ = some (.slice As_1 g1.length cs_1) := (blk_cell (BKW.out) 1).trans rfl
  have zG_0 : w14.cell? ⟨w4.heap.size, 0, none⟩ = some (.slice Ag_0 g0.length cg_0) := (blk_cell (BKG.out) 0).trans rfl
  have zG_1 : w14.cell? ⟨w4.heap.size, 1, none⟩ = some (.slice Ag_1 g1.length cg_1) := (blk_cell (BKG.out) 1).trans rfl
  have zY_0 : w14.cell? ⟨w13.heap.size, 0, none⟩ = some (.slice Ay_0 g0.length cy_0) := (blk_cell (BKY.out) 0).trans rfl
  have zY_1 : w14.cell? ⟨w13.heap.size, 1, none⟩ = some (.slice Ay_1 g1.length cy_1) := (blk_cell (BKY.out) 1).trans rfl
  go_wp2_with fail
  have e0_ := (Kd.R_reads' Rm_0.out).1
  have e1_ := (Kd.S_reads' Rm_1.out).1
  have hh_ := laws_heldWeb.calls k _ _ p0 _ _ p1 1 m _ (Kd.R_reads' Rm_0.out).2.2 (by rw [← e0_]; exact (Kd.R_reads' Rm_0.out).2.1) (Kd.S_reads' Rm_1.out).2.2 (by rw [← e1_]; exact (Kd.S_reads' Rm_1.out).2.1) FH.out
  rw [← e0_, ← e1_] at hh_
  clear e0_ e1_
  refine hh_.mono ?_
  clear hh_
  rintro e w15 ⟨rfl, hb⟩
  clear zW_0 zW_1 zG_0 zG_1 zY_0 zY_1
  have Bh15 := Aside0.mk (hb)
  clear hb
  have n_ := Aside0.mk (below_step BR.out Bh15.out)
  clear BR
  have BR := n_
  clear n_
  have n_ := Aside0.mk (Kd.R_below Rm_0.out Bh15.out)
  clear Rm_0
  have Rm_0 := n_
  clear n_
  have n_ := Aside0.mk (Kd.S_below Rm_1.out Bh15.out)
  clear Rm_1
  have Rm_1 := n_
  clear n_
  have n_ := Aside0.mk (blk_below BKW.out Bh15.out)
  clear BKW
  have BKW := n_
  clear n_
  have n_ := Aside0.mk (blk_below BKG.out Bh15.out)
  clear BKG
  have BKG := n_
  clear n_
  have n_ := Aside0.mk (blk_below BKY.out Bh15.out)
  clear BKY
  have BKY := n_
  clear n_
  go_wp2
  go_ret
  exact ⟨rfl, (below_then BW.out BW.out.size BR.out)⟩
def laws_FnExactWebOfWord.Pure : Prop := ∀ (l0 : List Int), l0.length ≤ maxLen → l0.length * 8 ≤ 140737488351232 → (∀ x ∈ l0, (Lit.int .i64 x).wf = true) → l0.length ≤ 1048576 → ∃ k c m g0 g1 p0 p1 m10 q0, laws_FnExactWebOfWord.Told l0 k c m g0 g1 p0 p1 m10 q0
set_option maxHeartbeats 4000000 in
theorem laws_FnExactWebOfWord.early (A0 : Option Addr) (c0 : Nat) (l0 : List Int) (w : World) (hs0 : 1048576 < l0.length) (hm : l0.length ≤ maxLen) :
    Calls Try.prog 15 #[.slice A0 l0.length c0] w fun e w' => e = .returned (.bool true) ∧ Below w.heap.size w w' := by
  have d1 : decide (1048576 < l0.length) = true := decide_eq_true hs0
  have d2 : decide ((1048576 : Int) < (l0.length : Int)) = true := decide_eq_true (by omega)
  go_enter Try.func15, Try.ntmps15
  go_wp2
  go_ret
  exact ⟨rfl, Below.refl _ _⟩
theorem laws_FnExactWebOfWord.walk (P : laws_FnExactWebOfWord.Pure) (a0 : Option Addr) (len0 cap0 : Nat) (z0 : List Int) (w : World) (w0 : (a0 = none ∧ len0 = 0 ∧ cap0 = 0 ∧ z0 = []) ∨ ∃ x, a0 = some x ∧ len0 ≤ cap0 ∧ cap0 ≤ maxLen ∧ z0.length = cap0 ∧ (∀ i, i < z0.length → w.cell? (x.add i) = some (.int .i64 (z0.getD i 0))) ∧ ∀ n ∈ z0, (Lit.int .i64 n).wf = true) (y0 : len0 * 8 ≤ 140737488351232) :
    Calls Try.prog 15 #[.slice a0 len0 cap0] w fun e w' => e = .returned (.bool true) ∧ Below w.heap.size w w' := by
  obtain ⟨l0, rfl, hr0, hm0, hw0, hc0⟩ := ReadsInt.ofRowC w0
  by_cases hs : l0.length ≤ 1048576
  · obtain ⟨k, c, m, g0, g1, p0, p1, m10, q0, h⟩ := P l0 hm0 y0 hw0 hs
    exact laws_FnExactWebOfWord.one _ _ l0 w (Kd.C_of_reads (d := (0 : Int)) (h1 := fun _ => rfl) hr0) hc0 hs k c m g0 g1 p0 p1 m10 q0 h
  · exact laws_FnExactWebOfWord.early _ _ l0 w (by omega) hm0

end Go.Proofs.Ytckmncebedhgeaa.G
