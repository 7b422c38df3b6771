-- Written by the session's program mk.py (which runs the kit's print.py over functions and over contracts given by hand).
import Derived.Test.YtckmncebedhgeaaG0
import Derived.Test.YtckmncebedhgeaaG128
import Derived.Test.YtckmncebedhgeaaG129
import Derived.Test.YtckmncebedhgeaaGgG
import Derived.Test.YtckmncebedhgeaaGgU
namespace Go.Proofs.Ytckmncebedhgeaa.G
open Go.RowKit Go.Maps Go.Proofs.YtckmncebedhgeaaW.PrintWords Go.Proofs.YtckmncebedhgeaaW.PrintLast Go.Proofs.YtckmncebedhgeaaW.PrintMore
attribute [local go_sem] max2_int min2_int max_two min_two max_three min_three max_four min_four   -- for this text's walks alone
set_option linter.unusedVariables false
set_option linter.unusedSimpArgs false

/-! ### spec_ParseGauss: function 67 -/
def spec_ParseGauss.f (k : Nat) (a0 : ByteArray) : Option (List Int × List Int × List Int × Int) := (spec_l07Read.f k a0).bind fun bt102 => (if bt102.2.2.2 = true then (some (bt102.1, bt102.2.1, bt102.2.2.1, 0)) else (some (([] : List Int), ([] : List Int), ([] : List Int), 6)))
theorem spec_ParseGauss.mono : ∀ a0 k, LeO (spec_ParseGauss.f k a0) (spec_ParseGauss.f (k + 1) a0) := by
  intro a0 k
  unfold spec_ParseGauss.f
  repeat' first
      | (with_reducible exact spec_l07Read.mono _ _)
      | (with_reducible exact LeO.refl _)
      | (with_reducible exact LeO.none _)
      | (with_reducible refine LeO.ite ?_ ?_)
      | (with_reducible refine LeO.bind ?_ (fun _ => ?_))
      | exact spec_l07Read.mono _ _
      | exact LeO.none _
      | refine LeO.ite ?_ ?_
      | refine LeO.bind ?_ (fun _ => ?_)
set_option maxHeartbeats 8000000 in
set_option maxRecDepth 100000 in
theorem spec_ParseGauss.calls (k : Nat) (a0 : ByteArray) (r1 : List Int) (r2 : List Int) (r3 : List Int) (r4 : Int) (w : World) (h : spec_ParseGauss.f k a0 = some (r1, r2, r3, r4)) :
    Calls Try.prog 67 #[.string a0] w fun e w' => ∃ v0_ v1_ v2_ : Value, e = .returned (.tuple #[.agg #[v0_, v1_, v2_], .int .i64 r4]) ∧ Kd.R (Kd.int .i64) 2 w' w.heap.size (fun k_ => some k_ ≠ (v1_ : Value).ownBlock ∧ some k_ ≠ (v2_ : Value).ownBlock) v0_ r1 ∧ Kd.R (Kd.int .i64) 2 w' w.heap.size (fun k_ => some k_ ≠ (v0_ : Value).ownBlock ∧ some k_ ≠ (v2_ : Value).ownBlock) v1_ r2 ∧ Kd.R (Kd.int .i64) 2 w' w.heap.size (fun k_ => some k_ ≠ (v0_ : Value).ownBlock ∧ some k_ ≠ (v1_ : Value).ownBlock) v2_ r3 ∧ Below w.heap.size w w' := by
  have hu49 := Try.underlying49
  have HB := Aside0.mk (Below.refl w.heap.size w)
  have H : ((spec_l07Read.f k a0).bind fun bt102 => (if bt102.2.2.2 = true then (some (bt102.1, bt102.2.1, bt102.2.2.1, 0)) else (some (([] : List Int), ([] : List Int), ([] : List Int), 6)))) = some (r1, r2, r3, r4) := h
  clear h
  replace H := Option.bind_eq_some_iff.mp H
  obtain ⟨⟨t102, t105, t108, t111⟩, A20, H⟩ := H
  replace H : (if t111 = true then (some (t102, t105, t108, 0)) else (some (([] : List Int), ([] : List Int), ([] : List Int), 6))) = some (r1, r2, r3, r4) := H
  have A2 := Aside0.mk A20
  clear A20
  by_cases c3 : t111 = true
  · subst c3
    have H1 : (some (t102, t105, t108, 0)) = some (r1, r2, r3, r4) := by rw [if_pos rfl] at H; exact H
    clear H
    have H := H1
    clear H1
    simp only [Option.some.injEq, Prod.mk.injEq] at H
    obtain ⟨rfl, rfl, rfl, rfl⟩ := H
    go_enter Try.func67, Try.ntmps67
    go_wp2_with (first | ((with_reducible refine gate_dst (N := 2) rfl ?_); refine box_event ?hg (N := 2) ?hd (cs := #[.slice none 0 0, .slice none 0 0, .slice none 0 0]) (t := 49) ?hr ?_; (case hd => rfl); (case hg => rfl); (case hr => first | (go_simp; done) | (go_simp; rfl)); intro gb101 hg w4 hbox hb; have n0_ := Aside0.mk (below_step (by repeat (first | (with_reducible first | exact HB.out | apply below_alloc | apply pw_below_drewN | apply below_drew1) | exact HB.out)) hb); have n1_ := Aside0.mk (hbox); have n2_ := Aside0.mk ((by rw [hg]; exact (below_size (by repeat (first | (with_reducible first | exact HB.out | apply below_alloc | apply pw_below_drewN | apply below_drew1) | exact HB.out))) : w.heap.size ≤ gb101)); have n3_ := Aside0.mk ((by rw [hg]; exact (below_size (by repeat (first | (with_reducible first | exact HB.out | apply below_alloc | apply pw_below_drewN | apply below_drew1) | exact HB.out))) : w.heap.size ≤ gb101)); clear HB; have HB := n0_; have BK101 := n1_; have GW101 := n2_; have GE101 := n3_; clear n0_ n1_ n2_ n3_; clear hb hbox hg) | ((with_reducible refine gate_callee (f := 129) rfl ?_); refine goesL_ (some 8) rfl rfl Try.func129 (by kernel_rfl) rfl #[.string a0] rfl (by (try simp only [List.map_toArray, List.map_cons, List.map_nil]); first | done | rfl | (simp only [List.length_drop, List.length_take]; rfl)) ?_; (with_reducible refine (spec_l07Read.calls k a0 t102 t105 t108 true _ A2.out).mono ?_); rintro e w5 ⟨v103, v106, v109, rfl, ho0, ho1, ho2, hb⟩; refine ⟨_, rfl, ?_⟩; have n0_ := Aside0.mk (Kd.R_lower ho0 (below_size (by repeat (first | (with_reducible first | exact HB.out | apply below_alloc | apply pw_below_drewN | apply below_drew1 | refine below_set ?_ GE101.out) | exact HB.out)))); have n1_ := Aside0.mk (Kd.R_lower ho1 (below_size (by repeat (first | (with_reducible first | exact HB.out | apply below_alloc | apply pw_below_drewN | apply below_drew1 | refine below_set ?_ GE101.out) | exact HB.out)))); have n2_ := Aside0.mk (Kd.R_lower ho2 (below_size (by repeat (first | (with_reducible first | exact HB.out | apply below_alloc | apply pw_below_drewN | apply below_drew1 | refine below_set ?_ GE101.out) | exact HB.out)))); have n3_ := Aside0.mk (blk_below (g := gb101) (o := .cells #[.slice none 0 0, .slice none 0 0, .slice none 0 0] 49 (0, 0)) (by (with_reducible repeat (first | refine blk_drewN ?_ _ | refine blk_drew ?_ | refine blk_alloc ?_ _)); exact BK101.out) hb); have n4_ := Aside0.mk (below_step (by repeat (first | (with_reducible first | exact HB.out | apply below_alloc | apply pw_below_drewN | apply below_drew1 | refine below_set ?_ GE101.out) | exact HB.out)) hb); clear BK101; clear HB; have HO104 := n0_; have HO107 := n1_; have HO110 := n2_; have BK101 := n3_; have HB := n4_; clear n0_ n1_ n2_ n3_ n4_; (try clear hb); (try clear hb2); (try clear hk); (try clear hi); (try clear ho0); (try clear ho1); (try clear ho2)) | ((with_reducible refine gate_dst (N := 4) rfl ?_); refine box_event ?hg (N := 4) ?hd (cs := #[.slice none 0 0, .slice none 0 0, .slice none 0 0]) (t := 49) ?hr ?_; (case hd => rfl); (case hg => rfl); (case hr => first | (go_simp; done) | (go_simp; rfl)); intro gb112 hg w6 hbox hb; have n0_ := Aside0.mk (Kd.R_below (by (with_reducible repeat (first | apply Kd.R_alloc | apply Kd.R_drewN | apply Kd.R_drew)); exact HO104.out) hb); have n1_ := Aside0.mk (Kd.R_below (by (with_reducible repeat (first | apply Kd.R_alloc | apply Kd.R_drewN | apply Kd.R_drew)); exact HO107.out) hb); have n2_ := Aside0.mk (Kd.R_below (by (with_reducible repeat (first | apply Kd.R_alloc | apply Kd.R_drewN | apply Kd.R_drew)); exact HO110.out) hb); have n3_ := Aside0.mk (blk_below (g := gb101) (o := .cells #[.slice none 0 0, .slice none 0 0, .slice none 0 0] 49 (0, 0)) (by (with_reducible repeat (first | refine blk_drewN ?_ _ | refine blk_drew ?_ | refine blk_alloc ?_ _)); exact BK101.out) hb); have n4_ := Aside0.mk (below_step (by repeat (first | (with_reducible first | exact HB.out | apply below_alloc | apply pw_below_drewN | apply below_drew1 | refine below_set ?_ GE101.out) | exact HB.out)) hb); have n5_ := Aside0.mk (hbox); have n6_ := Aside0.mk ((by rw [hg]; exact (below_size (by repeat (first | (with_reducible first | exact HB.out | apply below_alloc | apply pw_below_drewN | apply below_drew1 | refine below_set ?_ GE101.out) | exact HB.out))) : w.heap.size ≤ gb112)); have n7_ := Aside0.mk ((by rw [hg]; exact (below_size (by repeat (first | (with_reducible first | exact HB.out | apply below_alloc | apply pw_below_drewN | apply below_drew1 | refine below_set ?_ GE101.out) | exact HB.out))) : w.heap.size ≤ gb112)); have n8_ := Aside0.mk ((by rw [hg]; exact Nat.ne_of_lt (blk_lt (g := gb101) (o := .cells #[.slice none 0 0, .slice none 0 0, .slice none 0 0] 49 (0, 0)) (by (with_reducible repeat (first | refine blk_drewN ?_ _ | refine blk_drew ?_ | refine blk_alloc ?_ _)); exact BK101.out)) : gb101 ≠ gb112)); have n9_ := Aside0.mk ((by rw [hg]; exact Nat.ne_of_gt (blk_lt (g := gb101) (o := .cells #[.slice none 0 0, .slice none 0 0, .slice none 0 0] 49 (0, 0)) (by (with_reducible repeat (first | refine blk_drewN ?_ _ | refine blk_drew ?_ | refine blk_alloc ?_ _)); exact BK101.out)) : gb112 ≠ gb101)); clear HO104; clear HO107; clear HO110; clear BK101; clear HB; have HO104 := n0_; have HO107 := n1_; have HO110 := n2_; have BK101 := n3_; have HB := n4_; have BK112 := n5_; have GW112 := n6_; have GE112 := n7_; have NB101_112 := n8_; have NB112_101 := n9_; clear n0_ n1_ n2_ n3_ n4_ n5_ n6_ n7_ n8_ n9_; clear hb hbox hg; obtain ⟨Ao7, co7, eo7⟩ := Kd.R_slice HO104.out; subst eo7; have hnb8 := NB112_101.out; have hnc8 := NB101_112.out; have hcz9_0 : w6.cell? ⟨gb112, 0, none⟩ = some (.slice none 0 0) := (blk_cell BK112.out 0).trans rfl; have hcz9_1 : w6.cell? ⟨gb112, 1, none⟩ = some (.slice none 0 0) := (blk_cell BK112.out 1).trans rfl; have hcz9_2 : w6.cell? ⟨gb112, 2, none⟩ = some (.slice none 0 0) := (blk_cell BK112.out 2).trans rfl; have hfz9_0 := blk_frozen BK112.out 0; have hfz9_1 := blk_frozen BK112.out 1; have hfz9_2 := blk_frozen BK112.out 2; obtain ⟨Ao10, co10, eo10⟩ := Kd.R_slice HO107.out; subst eo10; obtain ⟨Ao11, co11, eo11⟩ := Kd.R_slice HO110.out; subst eo11; have hcz12_0 : w6.cell? ⟨gb101, 0, none⟩ = some (.slice none 0 0) := (blk_cell BK101.out 0).trans rfl; have hcz12_1 : w6.cell? ⟨gb101, 1, none⟩ = some (.slice none 0 0) := (blk_cell BK101.out 1).trans rfl; have hcz12_2 : w6.cell? ⟨gb101, 2, none⟩ = some (.slice none 0 0) := (blk_cell BK101.out 2).trans rfl; have hfz12_0 := blk_frozen BK101.out 0; have hfz12_1 := blk_frozen BK101.out 1; have hfz12_2 := blk_frozen BK101.out 2))
    refine bodyPost_ret (results_ct rfl _ _ gb101 49 #[.slice Ao7 t102.length co7, .slice Ao10 t105.length co10, .slice Ao11 t108.length co11] (0, 0) _ rfl (by (with_reducible repeat (first | refine blk_drewN ?_ _ | refine blk_drew ?_ | refine blk_alloc ?_ _)); refine blk_put (cs := #[.slice Ao7 t102.length co7, .slice Ao10 t105.length co10, .slice none 0 0]) ?_ 2 _ rfl; (with_reducible repeat (first | refine blk_drewN ?_ _ | refine blk_drew ?_ | refine blk_alloc ?_ _)); refine blk_put (cs := #[.slice Ao7 t102.length co7, .slice none 0 0, .slice none 0 0]) ?_ 1 _ rfl; (with_reducible repeat (first | refine blk_drewN ?_ _ | refine blk_drew ?_ | refine blk_alloc ?_ _)); refine blk_put (cs := #[.slice none 0 0, .slice none 0 0, .slice none 0 0]) ?_ 0 _ rfl; (with_reducible repeat (first | refine blk_drewN ?_ _ | refine blk_drew ?_ | refine blk_alloc ?_ _)); refine blk_far ?_ NB101_112.out _; (with_reducible repeat (first | refine blk_drewN ?_ _ | refine blk_drew ?_ | refine blk_alloc ?_ _)); refine blk_far ?_ NB101_112.out _; (with_reducible repeat (first | refine blk_drewN ?_ _ | refine blk_drew ?_ | refine blk_alloc ?_ _)); refine blk_far ?_ NB101_112.out _; (with_reducible repeat (first | refine blk_drewN ?_ _ | refine blk_drew ?_ | refine blk_alloc ?_ _)); exact BK101.out) Try.underlying49 rfl (by kernel_rfl)) rfl ?_
    exact ⟨_, _, _, by first | rfl | (simp [errW_none, errW_some] <;> rfl) | (simp [*, errW_none, errW_some] <;> rfl), by (with_reducible repeat (first | apply Kd.R_alloc | apply Kd.R_drewN | apply Kd.R_drew)); exact Kd.R_mono (Kd.R_far (p := ⟨gb101, 2, none⟩) (Kd.R_far (p := ⟨gb101, 1, none⟩) (Kd.R_far (p := ⟨gb101, 0, none⟩) (Kd.R_far (p := ⟨gb112, 2, none⟩) (Kd.R_far (p := ⟨gb112, 1, none⟩) (Kd.R_far (p := ⟨gb112, 0, none⟩) (Kd.R_types (Kd.R_types HO104.out BK112.out (by decide)) BK101.out (by decide)) (fun _ hk => hk.1.2) (.slice Ao7 t102.length co7)) (fun _ hk => hk.1.2) (.slice Ao10 t105.length co10)) (fun _ hk => hk.1.2) (.slice Ao11 t108.length co11)) (fun _ hk => hk.2) (.slice Ao7 t102.length co7)) (fun _ hk => hk.2) (.slice Ao10 t105.length co10)) (fun _ hk => hk.2) (.slice Ao11 t108.length co11)) (fun _ hk => ⟨hk.1.1.1, hk.1.1.2⟩), by (with_reducible repeat (first | apply Kd.R_alloc | apply Kd.R_drewN | apply Kd.R_drew)); exact Kd.R_mono (Kd.R_far (p := ⟨gb101, 2, none⟩) (Kd.R_far (p := ⟨gb101, 1, none⟩) (Kd.R_far (p := ⟨gb101, 0, none⟩) (Kd.R_far (p := ⟨gb112, 2, none⟩) (Kd.R_far (p := ⟨gb112, 1, none⟩) (Kd.R_far (p := ⟨gb112, 0, none⟩) (Kd.R_types (Kd.R_types HO107.out BK112.out (by decide)) BK101.out (by decide)) (fun _ hk => hk.1.2) (.slice Ao7 t102.length co7)) (fun _ hk => hk.1.2) (.slice Ao10 t105.length co10)) (fun _ hk => hk.1.2) (.slice Ao11 t108.length co11)) (fun _ hk => hk.2) (.slice Ao7 t102.length co7)) (fun _ hk => hk.2) (.slice Ao10 t105.length co10)) (fun _ hk => hk.2) (.slice Ao11 t108.length co11)) (fun _ hk => ⟨hk.1.1.1, hk.1.1.2⟩), by (with_reducible repeat (first | apply Kd.R_alloc | apply Kd.R_drewN | apply Kd.R_drew)); exact Kd.R_mono (Kd.R_far (p := ⟨gb101, 2, none⟩) (Kd.R_far (p := ⟨gb101, 1, none⟩) (Kd.R_far (p := ⟨gb101, 0, none⟩) (Kd.R_far (p := ⟨gb112, 2, none⟩) (Kd.R_far (p := ⟨gb112, 1, none⟩) (Kd.R_far (p := ⟨gb112, 0, none⟩) (Kd.R_types (Kd.R_types HO110.out BK112.out (by decide)) BK101.out (by decide)) (fun _ hk => hk.1.2) (.slice Ao7 t102.length co7)) (fun _ hk => hk.1.2) (.slice Ao10 t105.length co10)) (fun _ hk => hk.1.2) (.slice Ao11 t108.length co11)) (fun _ hk => hk.2) (.slice Ao7 t102.length co7)) (fun _ hk => hk.2) (.slice Ao10 t105.length co10)) (fun _ hk => hk.2) (.slice Ao11 t108.length co11)) (fun _ hk => ⟨hk.1.1.1, hk.1.1.2⟩), by repeat (first | (with_reducible first | exact HB.out | apply below_alloc | apply pw_below_drewN | apply below_drew1 | refine below_set ?_ GE101.out | refine below_set ?_ GE112.out) | exact HB.out)⟩
  · replace c3 := Bool.eq_false_iff.mpr c3
    subst c3
    have H1 : (some (([] : List Int), ([] : List Int), ([] : List Int), 6)) = some (r1, r2, r3, r4) := by rw [if_neg (show ¬ (false = true) by decide)] at H; exact H
    clear H
    have H := H1
    clear H1
    simp only [Option.some.injEq, Prod.mk.injEq] at H
    obtain ⟨rfl, rfl, rfl, rfl⟩ := H
    go_enter Try.func67, Try.ntmps67
    go_wp2_with (first | ((with_reducible refine gate_dst (N := 2) rfl ?_); refine box_event ?hg (N := 2) ?hd (cs := #[.slice none 0 0, .slice none 0 0, .slice none 0 0]) (t := 49) ?hr ?_; (case hd => rfl); (case hg => rfl); (case hr => first | (go_simp; done) | (go_simp; rfl)); intro gb101 hg w13 hbox hb; have n0_ := Aside0.mk (below_step (by repeat (first | (with_reducible first | exact HB.out | apply below_alloc | apply pw_below_drewN | apply below_drew1) | exact HB.out)) hb); have n1_ := Aside0.mk (hbox); have n2_ := Aside0.mk ((by rw [hg]; exact (below_size (by repeat (first | (with_reducible first | exact HB.out | apply below_alloc | apply pw_below_drewN | apply below_drew1) | exact HB.out))) : w.heap.size ≤ gb101)); have n3_ := Aside0.mk ((by rw [hg]; exact (below_size (by repeat (first | (with_reducible first | exact HB.out | apply below_alloc | apply pw_below_drewN | apply below_drew1) | exact HB.out))) : w.heap.size ≤ gb101)); clear HB; have HB := n0_; have BK101 := n1_; have GW101 := n2_; have GE101 := n3_; clear n0_ n1_ n2_ n3_; clear hb hbox hg) | ((with_reducible refine gate_callee (f := 129) rfl ?_); refine goesL_ (some 8) rfl rfl Try.func129 (by kernel_rfl) rfl #[.string a0] rfl (by (try simp only [List.map_toArray, List.map_cons, List.map_nil]); first | done | rfl | (simp only [List.length_drop, List.length_take]; rfl)) ?_; (with_reducible refine (spec_l07Read.calls k a0 t102 t105 t108 false _ A2.out).mono ?_); rintro e w14 ⟨v103, v106, v109, rfl, ho0, ho1, ho2, hb⟩; refine ⟨_, rfl, ?_⟩; have n0_ := Aside0.mk (Kd.R_lower ho0 (below_size (by repeat (first | (with_reducible first | exact HB.out | apply below_alloc | apply pw_below_drewN | apply below_drew1 | refine below_set ?_ GE101.out) | exact HB.out)))); have n1_ := Aside0.mk (Kd.R_lower ho1 (below_size (by repeat (first | (with_reducible first | exact HB.out | apply below_alloc | apply pw_below_drewN | apply below_drew1 | refine below_set ?_ GE101.out) | exact HB.out)))); have n2_ := Aside0.mk (Kd.R_lower ho2 (below_size (by repeat (first | (with_reducible first | exact HB.out | apply below_alloc | apply pw_below_drewN | apply below_drew1 | refine below_set ?_ GE101.out) | exact HB.out)))); have n3_ := Aside0.mk (blk_below (g := gb101) (o := .cells #[.slice none 0 0, .slice none 0 0, .slice none 0 0] 49 (0, 0)) (by (with_reducible repeat (first | refine blk_drewN ?_ _ | refine blk_drew ?_ | refine blk_alloc ?_ _)); exact BK101.out) hb); have n4_ := Aside0.mk (below_step (by repeat (first | (with_reducible first | exact HB.out | apply below_alloc | apply pw_below_drewN | apply below_drew1 | refine below_set ?_ GE101.out) | exact HB.out)) hb); clear BK101; clear HB; have HO104 := n0_; have HO107 := n1_; have HO110 := n2_; have BK101 := n3_; have HB := n4_; clear n0_ n1_ n2_ n3_ n4_; (try clear hb); (try clear hb2); (try clear hk); (try clear hi); (try clear ho0); (try clear ho1); (try clear ho2)) | ((with_reducible refine gate_dst (N := 4) rfl ?_); refine box_event ?hg (N := 4) ?hd (cs := #[.slice none 0 0, .slice none 0 0, .slice none 0 0]) (t := 49) ?hr ?_; (case hd => rfl); (case hg => rfl); (case hr => first | (go_simp; done) | (go_simp; rfl)); intro gb112 hg w15 hbox hb; have n0_ := Aside0.mk (Kd.R_below (by (with_reducible repeat (first | apply Kd.R_alloc | apply Kd.R_drewN | apply Kd.R_drew)); exact HO104.out) hb); have n1_ := Aside0.mk (Kd.R_below (by (with_reducible repeat (first | apply Kd.R_alloc | apply Kd.R_drewN | apply Kd.R_drew)); exact HO107.out) hb); have n2_ := Aside0.mk (Kd.R_below (by (with_reducible repeat (first | apply Kd.R_alloc | apply Kd.R_drewN | apply Kd.R_drew)); exact HO110.out) hb); have n3_ := Aside0.mk (blk_below (g := gb101) (o := .cells #[.slice none 0 0, .slice none 0 0, .slice none 0 0] 49 (0, 0)) (by (with_reducible repeat (first | refine blk_drewN ?_ _ | refine blk_drew ?_ | refine blk_alloc ?_ _)); exact BK101.out) hb); have n4_ := Aside0.mk (below_step (by repeat (first | (with_reducible first | exact HB.out | apply below_alloc | apply pw_below_drewN | apply below_drew1 | refine below_set ?_ GE101.out) | exact HB.out)) hb); have n5_ := Aside0.mk (hbox); have n6_ := Aside0.mk ((by rw [hg]; exact (below_size (by repeat (first | (with_reducible first | exact HB.out | apply below_alloc | apply pw_below_drewN | apply below_drew1 | refine below_set ?_ GE101.out) | exact HB.out))) : w.heap.size ≤ gb112)); have n7_ := Aside0.mk ((by rw [hg]; exact (below_size (by repeat (first | (with_reducible first | exact HB.out | apply below_alloc | apply pw_below_drewN | apply below_drew1 | refine below_set ?_ GE101.out) | exact HB.out))) : w.heap.size ≤ gb112)); have n8_ := Aside0.mk ((by rw [hg]; exact Nat.ne_of_lt (blk_lt (g := gb101) (o := .cells #[.slice none 0 0, .slice none 0 0, .slice none 0 0] 49 (0, 0)) (by (with_reducible repeat (first | refine blk_drewN ?_ _ | refine blk_drew ?_ | refine blk_alloc ?_ _)); exact BK101.out)) : gb101 ≠ gb112)); have n9_ := Aside0.mk ((by rw [hg]; exact Nat.ne_of_gt (blk_lt (g := gb101) (o := .cells #[.slice none 0 0, .slice none 0 0, .slice none 0 0] 49 (0, 0)) (by (with_reducible repeat (first | refine blk_drewN ?_ _ | refine blk_drew ?_ | refine blk_alloc ?_ _)); exact BK101.out)) : gb112 ≠ gb101)); clear HO104; clear HO107; clear HO110; clear BK101; clear HB; have HO104 := n0_; have HO107 := n1_; have HO110 := n2_; have BK101 := n3_; have HB := n4_; have BK112 := n5_; have GW112 := n6_; have GE112 := n7_; have NB101_112 := n8_; have NB112_101 := n9_; clear n0_ n1_ n2_ n3_ n4_ n5_ n6_ n7_ n8_ n9_; clear hb hbox hg; obtain ⟨Ao16, co16, eo16⟩ := Kd.R_slice HO104.out; subst eo16; have hnb17 := NB112_101.out; have hnc17 := NB101_112.out; have hcz18_0 : w15.cell? ⟨gb112, 0, none⟩ = some (.slice none 0 0) := (blk_cell BK112.out 0).trans rfl; have hcz18_1 : w15.cell? ⟨gb112, 1, none⟩ = some (.slice none 0 0) := (blk_cell BK112.out 1).trans rfl; have hcz18_2 : w15.cell? ⟨gb112, 2, none⟩ = some (.slice none 0 0) := (blk_cell BK112.out 2).trans rfl; have hfz18_0 := blk_frozen BK112.out 0; have hfz18_1 := blk_frozen BK112.out 1; have hfz18_2 := blk_frozen BK112.out 2; obtain ⟨Ao19, co19, eo19⟩ := Kd.R_slice HO107.out; subst eo19; obtain ⟨Ao20, co20, eo20⟩ := Kd.R_slice HO110.out; subst eo20; have hcz21_0 : w15.cell? ⟨gb101, 0, none⟩ = some (.slice none 0 0) := (blk_cell BK101.out 0).trans rfl; have hcz21_1 : w15.cell? ⟨gb101, 1, none⟩ = some (.slice none 0 0) := (blk_cell BK101.out 1).trans rfl; have hcz21_2 : w15.cell? ⟨gb101, 2, none⟩ = some (.slice none 0 0) := (blk_cell BK101.out 2).trans rfl; have hfz21_0 := blk_frozen BK101.out 0; have hfz21_1 := blk_frozen BK101.out 1; have hfz21_2 := blk_frozen BK101.out 2))
    refine bodyPost_ret (results_ct rfl _ _ gb101 49 #[.slice none 0 0, .slice none 0 0, .slice none 0 0] (0, 0) _ rfl (by (with_reducible repeat (first | refine blk_drewN ?_ _ | refine blk_drew ?_ | refine blk_alloc ?_ _)); refine blk_put (cs := #[.slice none 0 0, .slice none 0 0, .slice none 0 0]) ?_ 2 _ rfl; (with_reducible repeat (first | refine blk_drewN ?_ _ | refine blk_drew ?_ | refine blk_alloc ?_ _)); refine blk_put (cs := #[.slice none 0 0, .slice none 0 0, .slice none 0 0]) ?_ 1 _ rfl; (with_reducible repeat (first | refine blk_drewN ?_ _ | refine blk_drew ?_ | refine blk_alloc ?_ _)); refine blk_put (cs := #[.slice none 0 0, .slice none 0 0, .slice none 0 0]) ?_ 0 _ rfl; (with_reducible repeat (first | refine blk_drewN ?_ _ | refine blk_drew ?_ | refine blk_alloc ?_ _)); refine blk_far ?_ NB101_112.out _; (with_reducible repeat (first | refine blk_drewN ?_ _ | refine blk_drew ?_ | refine blk_alloc ?_ _)); refine blk_far ?_ NB101_112.out _; (with_reducible repeat (first | refine blk_drewN ?_ _ | refine blk_drew ?_ | refine blk_alloc ?_ _)); refine blk_far ?_ NB101_112.out _; (with_reducible repeat (first | refine blk_drewN ?_ _ | refine blk_drew ?_ | refine blk_alloc ?_ _)); exact BK101.out) Try.underlying49 rfl (by kernel_rfl)) rfl ?_
    exact ⟨_, _, _, by first | rfl | (simp [errW_none, errW_some] <;> rfl) | (simp [*, errW_none, errW_some] <;> rfl), by first | exact Kd.R_nil _ _ _ _ _ | exact Kd.N_nil _ _ _ _ _ | exact Kd.V_nil _ _ _ _ _ | exact Kd.Q_nil _ _ _ _ _ | exact Kd.S_nil _ _ _ _ _, by first | exact Kd.R_nil _ _ _ _ _ | exact Kd.N_nil _ _ _ _ _ | exact Kd.V_nil _ _ _ _ _ | exact Kd.Q_nil _ _ _ _ _ | exact Kd.S_nil _ _ _ _ _, by first | exact Kd.R_nil _ _ _ _ _ | exact Kd.N_nil _ _ _ _ _ | exact Kd.V_nil _ _ _ _ _ | exact Kd.Q_nil _ _ _ _ _ | exact Kd.S_nil _ _ _ _ _, by repeat (first | (with_reducible first | exact HB.out | apply below_alloc | apply pw_below_drewN | apply below_drew1 | refine below_set ?_ GE101.out | refine below_set ?_ GE112.out) | exact HB.out)⟩

/-! ### impl_ParseGauss: function 68 -/
mutual
def impl_ParseGauss.l0 : Nat → ByteArray → Int → List Int → List Int → List Int → Option (List Int × List Int × List Int × Int)
  | 0, _, _, _, _, _ => none
  | k + 1, x0, x5, x103000, x103001, x103002 => if x5 < (x0.size : Int) then (impl_ParseGauss.j1 k x0 x5 (decide ((x103000.length : Int) ≤ 12)) x103000 x103001 x103002) else (impl_ParseGauss.j1 k x0 x5 false x103000 x103001 x103002)
def impl_ParseGauss.j1 : Nat → ByteArray → Int → Bool → List Int → List Int → List Int → Option (List Int × List Int × List Int × Int)
  | 0, _, _, _, _, _, _ => none
  | k + 1, x0, x5, x16, x103000, x103001, x103002 => if x16 = true then (if 0 ≤ x5 then (if x5 < (x0.size : Int) then (if (bt x0 x5) = 43 then (if x103002.length < 17592186044416 then (impl_ParseGauss.l0 k x0 (wrap64 (x5 + 1)) x103000 x103001 (x103002 ++ [1])) else (none)) else (if (bt x0 x5) = 45 then (if x103002.length < 17592186044416 then (impl_ParseGauss.l0 k x0 (wrap64 (x5 + 1)) x103000 x103001 (x103002 ++ [(-1)])) else (none)) else (if (bt x0 x5) = 111 then (if x103001.length < 17592186044416 then (impl_ParseGauss.l0 k x0 (wrap64 (x5 + 1)) x103000 (x103001 ++ [1]) x103002) else (none)) else (if (bt x0 x5) = 117 then (if x103001.length < 17592186044416 then (impl_ParseGauss.l0 k x0 (wrap64 (x5 + 1)) x103000 (x103001 ++ [0]) x103002) else (none)) else (if x103000.length < 17592186044416 then (impl_ParseGauss.l0 k x0 (wrap64 (x5 + 1)) (x103000 ++ [wrap64 ((wrap64 (bt x0 x5)) - 97)]) x103001 x103002) else (none)))))) else (none)) else (none)) else ((impl_IsGauss.f k x103000 x103001 x103002).bind fun t118 => (if t118 = true then ((impl_gaussText.f x103000 x103001 x103002).bind fun t119 => (if t119.toList = x0.toList then (some (x103000, x103001, x103002, 0)) else (some (([] : List Int), ([] : List Int), ([] : List Int), 6)))) else (some (([] : List Int), ([] : List Int), ([] : List Int), 6))))
end
def impl_ParseGauss.f (k : Nat) (a0 : ByteArray) : Option (List Int × List Int × List Int × Int) := impl_ParseGauss.l0 k a0 0 ([] : List Int) ([] : List Int) ([] : List Int)
theorem impl_ParseGauss.mono_l : ∀ k, (∀ y0 y1 y2 y3 y4, LeO (impl_ParseGauss.l0 k y0 y1 y2 y3 y4) (impl_ParseGauss.l0 (k + 1) y0 y1 y2 y3 y4)) ∧ (∀ y0 y1 y2 y3 y4 y5, LeO (impl_ParseGauss.j1 k y0 y1 y2 y3 y4 y5) (impl_ParseGauss.j1 (k + 1) y0 y1 y2 y3 y4 y5))
  | 0 => ⟨fun _ _ _ _ _ r h => by simp [impl_ParseGauss.l0] at h, fun _ _ _ _ _ _ r h => by simp [impl_ParseGauss.j1] at h⟩
  | k + 1 => by
    obtain ⟨ih0, ih1⟩ := impl_ParseGauss.mono_l k
    refine ⟨?_, ?_⟩
    · intro y0 y1 y2 y3 y4
      unfold impl_ParseGauss.l0
      repeat' first
      | (with_reducible exact ih0 _ _ _ _ _)
      | (with_reducible exact ih1 _ _ _ _ _ _)
      | (with_reducible exact impl_IsGauss.mono _ _ _ _)
      | (with_reducible exact LeO.refl _)
      | (with_reducible exact LeO.none _)
      | (with_reducible refine LeO.ite ?_ ?_)
      | (with_reducible refine LeO.bind ?_ (fun _ => ?_))
      | exact ih0 _ _ _ _ _
      | exact ih1 _ _ _ _ _ _
      | exact impl_IsGauss.mono _ _ _ _
      | exact LeO.none _
      | refine LeO.ite ?_ ?_
      | refine LeO.bind ?_ (fun _ => ?_)
    · intro y0 y1 y2 y3 y4 y5
      unfold impl_ParseGauss.j1
      repeat' first
      | (with_reducible exact ih0 _ _ _ _ _)
      | (with_reducible exact ih1 _ _ _ _ _ _)
      | (with_reducible exact impl_IsGauss.mono _ _ _ _)
      | (with_reducible exact LeO.refl _)
      | (with_reducible exact LeO.none _)
      | (with_reducible refine LeO.ite ?_ ?_)
      | (with_reducible refine LeO.bind ?_ (fun _ => ?_))
      | exact ih0 _ _ _ _ _
      | exact ih1 _ _ _ _ _ _
      | exact impl_IsGauss.mono _ _ _ _
      | exact LeO.none _
      | refine LeO.ite ?_ ?_
      | refine LeO.bind ?_ (fun _ => ?_)
theorem impl_ParseGauss.mono : ∀ a0 k, LeO (impl_ParseGauss.f k a0) (impl_ParseGauss.f (k + 1) a0) := by
  intro a0 k
  obtain ⟨ih0, ih1⟩ := impl_ParseGauss.mono_l k
  unfold impl_ParseGauss.f
  repeat' first
      | (with_reducible exact ih0 _ _ _ _ _)
      | (with_reducible exact ih1 _ _ _ _ _ _)
      | (with_reducible exact impl_IsGauss.mono _ _ _ _)
      | (with_reducible exact LeO.refl _)
      | (with_reducible exact LeO.none _)
      | (with_reducible refine LeO.ite ?_ ?_)
      | (with_reducible refine LeO.bind ?_ (fun _ => ?_))
      | exact ih0 _ _ _ _ _
      | exact ih1 _ _ _ _ _ _
      | exact impl_IsGauss.mono _ _ _ _
      | exact LeO.none _
      | refine LeO.ite ?_ ?_
      | refine LeO.bind ?_ (fun _ => ?_)
def impl_ParseGauss.T6 : Bool × List (List Nat × List Nat) := (true, [([], []), ([0], [0]), ([], []), ([], []), ([2, 3], [2, 3]), ([4], [4]), ([5], [5]), ([6], [6]), ([1, 7], [1, 7]), ([0, 1, 2, 3, 4, 5, 6, 7, 8], []), ([9, 8, 8, 0, 1, 2, 3, 4, 5, 6, 7, 8], [8, 9])])
def impl_ParseGauss.B6 : List Nat := [0, 1, 0, 0, 12, 28, 60, 124, 255, 511, 1023]
theorem impl_ParseGauss.tab6 : rtab .any (opsOf Try.f68 6) = impl_ParseGauss.T6 := by kernel_rfl
theorem impl_ParseGauss.bits6 : waitsOk impl_ParseGauss.T6.2 impl_ParseGauss.B6 = true := by kernel_rfl
set_option maxHeartbeats 8000000 in
set_option maxRecDepth 100000 in
theorem impl_ParseGauss.calls (k : Nat) (a0 : ByteArray) (r1 : List Int) (r2 : List Int) (r3 : List Int) (r4 : Int) (w : World) (h : impl_ParseGauss.f k a0 = some (r1, r2, r3, r4)) :
    Calls Try.prog 68 #[.string a0] w fun e w' => ∃ v0_ v1_ v2_ : Value, e = .returned (.tuple #[.agg #[v0_, v1_, v2_], .int .i64 r4]) ∧ Kd.R (Kd.int .i64) 2 w' w.heap.size (fun k_ => some k_ ≠ (v1_ : Value).ownBlock ∧ some k_ ≠ (v2_ : Value).ownBlock) v0_ r1 ∧ Kd.R (Kd.int .i64) 2 w' w.heap.size (fun k_ => some k_ ≠ (v0_ : Value).ownBlock ∧ some k_ ≠ (v2_ : Value).ownBlock) v1_ r2 ∧ Kd.R (Kd.int .i64) 2 w' w.heap.size (fun k_ => some k_ ≠ (v0_ : Value).ownBlock ∧ some k_ ≠ (v1_ : Value).ownBlock) v2_ r3 ∧ Below w.heap.size w w' := by
  have hu49 := Try.underlying49
  have HB := Aside0.mk (Below.refl w.heap.size w)
  have H : (impl_ParseGauss.l0 k a0 0 ([] : List Int) ([] : List Int) ([] : List Int)) = some (r1, r2, r3, r4) := h
  clear h
  have H' := Aside0.mk H
  clear H
  go_enter Try.func68, Try.ntmps68
  go_wp2_with (first | ((with_reducible refine gate_dst (N := 2) rfl ?_); (try (refine gate_guard (by rfl) ?_; dsimp only)); refine box_event ?hg (N := 2) ?hd (cs := #[.slice none 0 0, .slice none 0 0, .slice none 0 0]) (t := 49) ?hr ?_; (case hd => rfl); (case hg => rfl); (case hr => first | (go_simp; done) | (go_simp; rfl)); intro gb101 hg w2 hbox hb; have n0_ := Aside0.mk (below_step (by repeat (first | (with_reducible first | exact HB.out | apply below_alloc | apply pw_below_drewN | apply below_drew1) | exact HB.out)) hb); have n1_ := Aside0.mk (hbox); have n2_ := Aside0.mk ((by rw [hg]; exact (below_size (by repeat (first | (with_reducible first | exact HB.out | apply below_alloc | apply pw_below_drewN | apply below_drew1) | exact HB.out))) : w.heap.size ≤ gb101)); have n3_ := Aside0.mk ((by rw [hg]; exact (below_size (by repeat (first | (with_reducible first | exact HB.out | apply below_alloc | apply pw_below_drewN | apply below_drew1) | exact HB.out))) : w.heap.size ≤ gb101)); clear HB; have HB := n0_; have BK101 := n1_; have GW101 := n2_; have GE101 := n3_; clear n0_ n1_ n2_ n3_; clear hb hbox hg) | ((with_reducible refine gate_dst (N := 4) rfl ?_); (try (refine gate_guard (by rfl) ?_; dsimp only)); refine box_event ?hg (N := 4) ?hd (cs := #[.slice none 0 0, .slice none 0 0, .slice none 0 0]) (t := 49) ?hr ?_; (case hd => rfl); (case hg => rfl); (case hr => first | (go_simp; done) | (go_simp; rfl)); intro gb102 hg w3 hbox hb; have n0_ := Aside0.mk (blk_below (g := gb101) (o := .cells #[.slice none 0 0, .slice none 0 0, .slice none 0 0] 49 (0, 0)) (by (with_reducible repeat (first | refine blk_drewN ?_ _ | refine blk_drew ?_ | refine blk_alloc ?_ _)); exact BK101.out) hb); have n1_ := Aside0.mk (below_step (by repeat (first | (with_reducible first | exact HB.out | apply below_alloc | apply pw_below_drewN | apply below_drew1 | refine below_set ?_ GE101.out) | exact HB.out)) hb); have n2_ := Aside0.mk (hbox); have n3_ := Aside0.mk ((by rw [hg]; exact (below_size (by repeat (first | (with_reducible first | exact HB.out | apply below_alloc | apply pw_below_drewN | apply below_drew1 | refine below_set ?_ GE101.out) | exact HB.out))) : w.heap.size ≤ gb102)); have n4_ := Aside0.mk ((by rw [hg]; exact (below_size (by repeat (first | (with_reducible first | exact HB.out | apply below_alloc | apply pw_below_drewN | apply below_drew1 | refine below_set ?_ GE101.out) | exact HB.out))) : w.heap.size ≤ gb102)); have n5_ := Aside0.mk ((by rw [hg]; exact Nat.ne_of_lt (blk_lt (g := gb101) (o := .cells #[.slice none 0 0, .slice none 0 0, .slice none 0 0] 49 (0, 0)) (by (with_reducible repeat (first | refine blk_drewN ?_ _ | refine blk_drew ?_ | refine blk_alloc ?_ _)); exact BK101.out)) : gb101 ≠ gb102)); have n6_ := Aside0.mk ((by rw [hg]; exact Nat.ne_of_gt (blk_lt (g := gb101) (o := .cells #[.slice none 0 0, .slice none 0 0, .slice none 0 0] 49 (0, 0)) (by (with_reducible repeat (first | refine blk_drewN ?_ _ | refine blk_drew ?_ | refine blk_alloc ?_ _)); exact BK101.out)) : gb102 ≠ gb101)); clear BK101; clear HB; have BK101 := n0_; have HB := n1_; have BK102 := n2_; have GW102 := n3_; have GE102 := n4_; have NB101_102 := n5_; have NB102_101 := n6_; clear n0_ n1_ n2_ n3_ n4_ n5_ n6_; clear hb hbox hg; have hnb4 := NB102_101.out; have hnc4 := NB101_102.out; have hcz5_0 : w3.cell? ⟨gb102, 0, none⟩ = some (.slice none 0 0) := (blk_cell BK102.out 0).trans rfl; have hcz5_1 : w3.cell? ⟨gb102, 1, none⟩ = some (.slice none 0 0) := (blk_cell BK102.out 1).trans rfl; have hcz5_2 : w3.cell? ⟨gb102, 2, none⟩ = some (.slice none 0 0) := (blk_cell BK102.out 2).trans rfl; have hfz5_0 := blk_frozen BK102.out 0; have hfz5_1 := blk_frozen BK102.out 1; have hfz5_2 := blk_frozen BK102.out 2))
  go_loopg [5] k (fun kq v5 w' => ∃ (x5_1 : Int) (x103000_1 : List Int) (x103001_1 : List Int) (x103002_1 : List Int) (u103000 : Value) (u103001 : Value) (u103002 : Value), v5 = .int .i64 x5_1 ∧ Aside0 (impl_ParseGauss.l0 kq a0 x5_1 x103000_1 x103001_1 x103002_1 = some (r1, r2, r3, r4)) ∧ Aside0 (kq ≤ k) ∧ Aside0 (Kd.R (Kd.int .i64) 2 w' w.heap.size (fun k_ => some k_ ≠ (u103001 : Value).ownBlock ∧ some k_ ≠ (u103002 : Value).ownBlock) u103000 x103000_1) ∧ Aside0 (Kd.R (Kd.int .i64) 2 w' w.heap.size (fun k_ => some k_ ≠ (u103000 : Value).ownBlock ∧ some k_ ≠ (u103002 : Value).ownBlock) u103001 x103001_1) ∧ Aside0 (Kd.R (Kd.int .i64) 2 w' w.heap.size (fun k_ => some k_ ≠ (u103000 : Value).ownBlock ∧ some k_ ≠ (u103001 : Value).ownBlock) u103002 x103002_1) ∧ Aside0 (w'.heap[gb101]? = some (.cells #[(.slice none 0 0), (.slice none 0 0), (.slice none 0 0)] 49 (0, 0))) ∧ Aside0 (w'.heap[gb102]? = some (.cells #[u103000, u103001, u103002] 49 (0, 0))) ∧ Aside0 (Below w.heap.size w w'))
  case atStart => exact ⟨(0), (([] : List Int)), (([] : List Int)), (([] : List Int)), (.slice none 0 0), (.slice none 0 0), (.slice none 0 0), (by first | rfl | (simp; done) | (simp [*]; done)), H', ⟨Nat.le_refl _⟩, ⟨by first | exact Kd.R_nil _ _ _ _ _ | exact Kd.N_nil _ _ _ _ _ | exact Kd.V_nil _ _ _ _ _ | exact Kd.Q_nil _ _ _ _ _ | exact Kd.S_nil _ _ _ _ _⟩, ⟨by first | exact Kd.R_nil _ _ _ _ _ | exact Kd.N_nil _ _ _ _ _ | exact Kd.V_nil _ _ _ _ _ | exact Kd.Q_nil _ _ _ _ _ | exact Kd.S_nil _ _ _ _ _⟩, ⟨by first | exact Kd.R_nil _ _ _ _ _ | exact Kd.N_nil _ _ _ _ _ | exact Kd.V_nil _ _ _ _ _ | exact Kd.Q_nil _ _ _ _ _ | exact Kd.S_nil _ _ _ _ _⟩, ⟨by (with_reducible repeat (first | refine blk_drewN ?_ _ | refine blk_drew ?_ | refine blk_alloc ?_ _)); refine blk_far ?_ NB101_102.out _; (with_reducible repeat (first | refine blk_drewN ?_ _ | refine blk_drew ?_ | refine blk_alloc ?_ _)); refine blk_far ?_ NB101_102.out _; (with_reducible repeat (first | refine blk_drewN ?_ _ | refine blk_drew ?_ | refine blk_alloc ?_ _)); refine blk_far ?_ NB101_102.out _; (with_reducible repeat (first | refine blk_drewN ?_ _ | refine blk_drew ?_ | refine blk_alloc ?_ _)); exact BK101.out⟩, ⟨by (with_reducible repeat (first | refine blk_drewN ?_ _ | refine blk_drew ?_ | refine blk_alloc ?_ _)); refine blk_put (cs := #[.slice none 0 0, .slice none 0 0, .slice none 0 0]) ?_ 2 _ rfl; (with_reducible repeat (first | refine blk_drewN ?_ _ | refine blk_drew ?_ | refine blk_alloc ?_ _)); refine blk_put (cs := #[.slice none 0 0, .slice none 0 0, .slice none 0 0]) ?_ 1 _ rfl; (with_reducible repeat (first | refine blk_drewN ?_ _ | refine blk_drew ?_ | refine blk_alloc ?_ _)); refine blk_put (cs := #[.slice none 0 0, .slice none 0 0, .slice none 0 0]) ?_ 0 _ rfl; (with_reducible repeat (first | refine blk_drewN ?_ _ | refine blk_drew ?_ | refine blk_alloc ?_ _)); exact BK102.out⟩, ⟨by repeat (first | (with_reducible first | exact HB.out | apply below_alloc | apply pw_below_drewN | apply below_drew1 | refine below_set ?_ GE101.out | refine below_set ?_ GE102.out) | exact HB.out)⟩⟩
  case round =>
    clear H'
    try clear p2
    try clear c4
    try clear hcz5_0
    try clear hcz5_1
    try clear hcz5_2
    try clear hfz5_0
    try clear hfz5_1
    try clear hfz5_2
    obtain ⟨x5_1, x103000_1, x103001_1, x103002_1, u103000, u103001, u103002, rfl, HA, HK1, HO_103000, HO_103001, HO_103002, BK101, BK102, HB⟩ := hrel
    cases gk with
    | zero => exact absurd HA.out (by simp [impl_ParseGauss.l0])
    | succ k1 =>
      have H := HA.out
      clear HA
      simp only [impl_ParseGauss.l0] at H
      have HC6 := Aside0.mk H
      clear H
      go_upto_region 3 with (fail)
      go_cut [16] (fun v16 wc => ∃ (kq : Nat) (x16_5 : Bool), v16 = .bool x16_5 ∧ Aside0 (impl_ParseGauss.j1 kq a0 x5_1 x16_5 x103000_1 x103001_1 x103002_1 = some (r1, r2, r3, r4)) ∧ Aside0 (kq ≤ k1) ∧ Aside0 (Kd.R (Kd.int .i64) 2 wc w.heap.size (fun k_ => some k_ ≠ (u103001 : Value).ownBlock ∧ some k_ ≠ (u103002 : Value).ownBlock) u103000 x103000_1) ∧ Aside0 (Kd.R (Kd.int .i64) 2 wc w.heap.size (fun k_ => some k_ ≠ (u103000 : Value).ownBlock ∧ some k_ ≠ (u103002 : Value).ownBlock) u103001 x103001_1) ∧ Aside0 (Kd.R (Kd.int .i64) 2 wc w.heap.size (fun k_ => some k_ ≠ (u103000 : Value).ownBlock ∧ some k_ ≠ (u103001 : Value).ownBlock) u103002 x103002_1) ∧ Aside0 (wc.heap[gb101]? = some (.cells #[(.slice none 0 0), (.slice none 0 0), (.slice none 0 0)] 49 (0, 0))) ∧ Aside0 (wc.heap[gb102]? = some (.cells #[u103000, u103001, u103002] 49 (0, 0))) ∧ Aside0 (Below w.heap.size w wc))
      case first =>
        have H := HC6.out
        clear HC6
        by_cases c7 : x5_1 < (a0.size : Int)
        · rw [if_pos c7] at H
          have c7b0 : decide (x5_1 < (a0.size : Int)) = true := decide_eq_true c7
          clear c7
          (first | rw [c7b0] | (simp only [i64_w, i32_w]; rw [c7b0]) | skip)
          have H' := Aside0.mk H
          clear H
          have hnb8 := NB102_101.out
          have hnc8 := NB101_102.out
          have hcz9_0 : wr.cell? ⟨gb102, 0, none⟩ = some (u103000) := (blk_cell BK102.out 0).trans rfl
          have hcz9_1 : wr.cell? ⟨gb102, 1, none⟩ = some (u103001) := (blk_cell BK102.out 1).trans rfl
          have hcz9_2 : wr.cell? ⟨gb102, 2, none⟩ = some (u103002) := (blk_cell BK102.out 2).trans rfl
          have hfz9_0 := blk_frozen BK102.out 0
          have hfz9_1 := blk_frozen BK102.out 1
          have hfz9_2 := blk_frozen BK102.out 2
          obtain ⟨Ao10, co10, eo10⟩ := Kd.R_slice HO_103000.out
          subst eo10
          go_wp2
          go_meet
          case rel => exact ⟨_, (decide ((x103000_1.length : Int) ≤ 12)), (by first | rfl | (simp; done) | (simp [*]; done)), H', ⟨by have := HK1.out; first | omega | exact Nat.le_refl _⟩, ⟨by (with_reducible repeat (first | apply Kd.R_alloc | apply Kd.R_drewN | apply Kd.R_drew)); exact HO_103000.out⟩, ⟨by (with_reducible repeat (first | apply Kd.R_alloc | apply Kd.R_drewN | apply Kd.R_drew)); exact HO_103001.out⟩, ⟨by (with_reducible repeat (first | apply Kd.R_alloc | apply Kd.R_drewN | apply Kd.R_drew)); exact HO_103002.out⟩, ⟨by (with_reducible repeat (first | refine blk_drewN ?_ _ | refine blk_drew ?_ | refine blk_alloc ?_ _)); exact BK101.out⟩, ⟨by (with_reducible repeat (first | refine blk_drewN ?_ _ | refine blk_drew ?_ | refine blk_alloc ?_ _)); exact BK102.out⟩, ⟨by repeat (first | (with_reducible first | exact HB.out | apply below_alloc | apply pw_below_drewN | apply below_drew1 | refine below_set ?_ GE101.out | refine below_set ?_ GE102.out) | exact HB.out)⟩⟩
        · rw [if_neg c7] at H
          have c7b0 : decide (x5_1 < (a0.size : Int)) = false := decide_eq_false c7
          clear c7
          (first | rw [c7b0] | (simp only [i64_w, i32_w]; rw [c7b0]) | skip)
          have H' := Aside0.mk H
          clear H
          go_wp2
          go_meet
          case rel => exact ⟨_, (false), (by first | rfl | (simp; done) | (simp [*]; done)), H', ⟨by have := HK1.out; first | omega | exact Nat.le_refl _⟩, ⟨by (with_reducible repeat (first | apply Kd.R_alloc | apply Kd.R_drewN | apply Kd.R_drew)); exact HO_103000.out⟩, ⟨by (with_reducible repeat (first | apply Kd.R_alloc | apply Kd.R_drewN | apply Kd.R_drew)); exact HO_103001.out⟩, ⟨by (with_reducible repeat (first | apply Kd.R_alloc | apply Kd.R_drewN | apply Kd.R_drew)); exact HO_103002.out⟩, ⟨by (with_reducible repeat (first | refine blk_drewN ?_ _ | refine blk_drew ?_ | refine blk_alloc ?_ _)); exact BK101.out⟩, ⟨by (with_reducible repeat (first | refine blk_drewN ?_ _ | refine blk_drew ?_ | refine blk_alloc ?_ _)); exact BK102.out⟩, ⟨by repeat (first | (with_reducible first | exact HB.out | apply below_alloc | apply pw_below_drewN | apply below_drew1 | refine below_set ?_ GE101.out | refine below_set ?_ GE102.out) | exact HB.out)⟩⟩
      case rest =>
        clear HC6
        try clear p2
        try clear c4
        try clear c6
        try clear c7
        try clear c7b0
        try clear c8
        try clear hcz5_0
        try clear hcz5_1
        try clear hcz5_2
        try clear hcz9_0
        try clear hcz9_1
        try clear hcz9_2
        try clear hfz5_0
        try clear hfz5_1
        try clear hfz5_2
        try clear hfz9_0
        try clear hfz9_1
        try clear hfz9_2
        try clear p2
        obtain ⟨kq, x16_5, rfl, HA, HJ5, HO_103000, HO_103001, HO_103002, BK101, BK102, HB⟩ := hcut
        cases kq with
        | zero => exact absurd HA.out (by simp [impl_ParseGauss.j1])
        | succ kj5 =>
          have H := HA.out
          clear HA
          simp only [impl_ParseGauss.j1] at H
          by_cases c11 : x16_5 = true
          · subst c11
            have H1 : (if 0 ≤ x5_1 then (if x5_1 < (a0.size : Int) then (if (bt a0 x5_1) = 43 then (if x103002_1.length < 17592186044416 then (impl_ParseGauss.l0 kj5 a0 (wrap64 (x5_1 + 1)) x103000_1 x103001_1 (x103002_1 ++ [1])) else (none)) else (if (bt a0 x5_1) = 45 then (if x103002_1.length < 17592186044416 then (impl_ParseGauss.l0 kj5 a0 (wrap64 (x5_1 + 1)) x103000_1 x103001_1 (x103002_1 ++ [(-1)])) else (none)) else (if (bt a0 x5_1) = 111 then (if x103001_1.length < 17592186044416 then (impl_ParseGauss.l0 kj5 a0 (wrap64 (x5_1 + 1)) x103000_1 (x103001_1 ++ [1]) x103002_1) else (none)) else (if (bt a0 x5_1) = 117 then (if x103001_1.length < 17592186044416 then (impl_ParseGauss.l0 kj5 a0 (wrap64 (x5_1 + 1)) x103000_1 (x103001_1 ++ [0]) x103002_1) else (none)) else (if x103000_1.length < 17592186044416 then (impl_ParseGauss.l0 kj5 a0 (wrap64 (x5_1 + 1)) (x103000_1 ++ [wrap64 ((wrap64 (bt a0 x5_1)) - 97)]) x103001_1 x103002_1) else (none)))))) else (none)) else (none)) = some (r1, r2, r3, r4) := by rw [if_pos rfl] at H; exact H
            clear H
            have H := H1
            clear H1
            by_cases c12 : 0 ≤ x5_1
            · rw [if_pos c12] at H
              have c12b0 : decide (0 ≤ x5_1) = true := decide_eq_true c12
              clear c12
              by_cases c13 : x5_1 < (a0.size : Int)
              · rw [if_pos c13] at H
                have c13b0 : decide (x5_1 < (a0.size : Int)) = true := decide_eq_true c13
                clear c13
                by_cases c15 : (bt a0 x5_1) = 43
                · rw [if_pos c15] at H
                  have c15b0 : ((bt a0 x5_1) == 43) = true := beq_iff_eq.mpr c15
                  have c15b1 : ((bt a0 x5_1) != 43) = false := bne_eq_false_iff_eq.mpr c15
                  clear c15
                  by_cases c16 : x103002_1.length < 17592186044416
                  · rw [if_pos c16] at H
                    have LMc16 := Aside0.mk c16
                    clear c16
                    obtain ⟨y103, hy103⟩ : ∃ y_ : List Int, y_ = (x103002_1 ++ [1]) := ⟨_, rfl⟩
                    replace H : (impl_ParseGauss.l0 kj5 a0 (wrap64 (x5_1 + 1)) x103000_1 x103001_1 y103) = some (r1, r2, r3, r4) := by first | (rw [hy103]; with_reducible exact H) | (have H2_ := (Option.bind_some _ _).symm.trans H; rw [hy103]; with_reducible exact H2_) | (have H2_ := (Option.bind_some _ _).symm.trans H; with_reducible exact H2_) | with_reducible exact H | (rw [hy103]; exact H) | exact H
                    have Ny103 := Aside0.mk hy103
                    clear hy103
                    have H' := Aside0.mk H
                    clear H
                    have p14 : 0 ≤ (x5_1 : Int) := of_decide_eq_true (by first | (with_reducible assumption) | assumption)
                    have q14 : x5_1 < (a0.size : Int) := of_decide_eq_true (by first | (with_reducible assumption) | assumption)
                    have hx14 := bt_at a0 x5_1
                    replace p14 := eq_true p14
                    replace q14 := eq_true q14
                    have hnb17 := NB102_101.out
                    have hnc17 := NB101_102.out
                    have hcz18_0 : wc.cell? ⟨gb102, 0, none⟩ = some (u103000) := (blk_cell BK102.out 0).trans rfl
                    have hcz18_1 : wc.cell? ⟨gb102, 1, none⟩ = some (u103001) := (blk_cell BK102.out 1).trans rfl
                    have hcz18_2 : wc.cell? ⟨gb102, 2, none⟩ = some (u103002) := (blk_cell BK102.out 2).trans rfl
                    have hfz18_0 := blk_frozen BK102.out 0
                    have hfz18_1 := blk_frozen BK102.out 1
                    have hfz18_2 := blk_frozen BK102.out 2
                    go_wp2_with (first | ((with_reducible refine gate_builtin (b := .append) (xs := #[.tmp 35, .tmp 36]) rfl ?_); (try (refine gate_guard (by rfl) ?_; dsimp only)); at_builtin; refine Kd.R_append (Kd.int .i64) (w0 := w) w.heap.size rfl (.tmp 35) (.tmp 36) 28 2 (.int .i64 0) 8 rfl Try.underlying28 info2 rfl (by decide) (by omega) u103002 x103002_1 1 [.int .i64 1] (fun k_ => some k_ ≠ (u103000 : Value).ownBlock ∧ some k_ ≠ (u103001 : Value).ownBlock) (fun _ => False) rfl rfl ?aP (fun _ hk => hk.elim) ?aF ?aO ?aB ?aS ?aL ?_; (case aP => exact rfl); (case aB => exact (by repeat (first | (with_reducible first | exact HB.out | apply below_alloc | apply pw_below_drewN | apply below_drew1 | refine below_set ?_ GE101.out | refine below_set ?_ GE102.out) | exact HB.out))); (case aF => exact (fun k_ hk => ⟨Kd.fresh' (Kd.R_lt (by (with_reducible repeat (first | apply Kd.R_alloc | apply Kd.R_drewN | apply Kd.R_drew)); exact HO_103000.out)) k_ hk, Kd.fresh' (Kd.R_lt (by (with_reducible repeat (first | apply Kd.R_alloc | apply Kd.R_drewN | apply Kd.R_drew)); exact HO_103001.out)) k_ hk⟩)); (case aO => exact (by (with_reducible repeat (first | apply Kd.R_alloc | apply Kd.R_drewN | apply Kd.R_drew)); exact HO_103002.out)); (case aS => exact (below_size (by repeat (first | (with_reducible first | exact HB.out | apply below_alloc | apply pw_below_drewN | apply below_drew1 | refine below_set ?_ GE101.out | refine below_set ?_ GE102.out) | exact HB.out)))); (case aL => have := LMc16.out; omega); intro v104 w19 ho hb hg hat; rw [← Ny103.out] at ho; have n0_ := Aside0.mk (Kd.R_after (ok := (fun k_ => some k_ ≠ (u103001 : Value).ownBlock)) (by (with_reducible repeat (first | apply Kd.R_alloc | apply Kd.R_drewN | apply Kd.R_drew)); exact HO_103000.out) hg hat); have n1_ := Aside0.mk (Kd.R_after (ok := (fun k_ => some k_ ≠ (u103000 : Value).ownBlock)) (by (with_reducible repeat (first | apply Kd.R_alloc | apply Kd.R_drewN | apply Kd.R_drew)); exact HO_103001.out) hg hat); have n2_ := Aside0.mk (blk_grown (g := gb101) (o := .cells #[.slice none 0 0, .slice none 0 0, .slice none 0 0] 49 (0, 0)) (by (with_reducible repeat (first | refine blk_drewN ?_ _ | refine blk_drew ?_ | refine blk_alloc ?_ _)); exact BK101.out) hg (Kd.R_ne HO_103002.out BK101.out (by decide))); have n3_ := Aside0.mk (blk_grown (g := gb102) (o := .cells #[u103000, u103001, u103002] 49 (0, 0)) (by (with_reducible repeat (first | refine blk_drewN ?_ _ | refine blk_drew ?_ | refine blk_alloc ?_ _)); exact BK102.out) hg (Kd.R_ne HO_103002.out BK102.out (by decide))); have n4_ := Aside0.mk (hb); have n5_ := Aside0.mk (ho); clear HO_103000; clear HO_103001; clear BK101; clear BK102; clear HB; clear HO_103002; have HO_103000 := n0_; have HO_103001 := n1_; have BK101 := n2_; have BK102 := n3_; have HB := n4_; have HO105 := n5_; clear n0_ n1_ n2_ n3_ n4_ n5_; clear ho hb hg hat; obtain ⟨Ao20, co20, eo20⟩ := Kd.R_slice HO105.out; subst eo20; have hcz21_0 : w19.cell? ⟨gb102, 0, none⟩ = some (u103000) := (blk_cell BK102.out 0).trans rfl; have hcz21_1 : w19.cell? ⟨gb102, 1, none⟩ = some (u103001) := (blk_cell BK102.out 1).trans rfl; have hcz21_2 : w19.cell? ⟨gb102, 2, none⟩ = some (u103002) := (blk_cell BK102.out 2).trans rfl; have hfz21_0 := blk_frozen BK102.out 0; have hfz21_1 := blk_frozen BK102.out 1; have hfz21_2 := blk_frozen BK102.out 2))
                    go_roundg kj5
                    case measure => have := HK1.out; have := HJ5.out; omega
                    case rel => exact ⟨(wrap64 (x5_1 + 1)), (x103000_1), (x103001_1), (y103), (u103000), (u103001), (.slice Ao20 y103.length co20), (by first | rfl | (simp; done) | (simp [*]; done)), H', ⟨by have := HK1.out; have := HJ5.out; omega⟩, ⟨by (with_reducible repeat (first | apply Kd.R_alloc | apply Kd.R_drewN | apply Kd.R_drew)); exact Kd.R_mono (Kd.R_far (p := ⟨gb102, 2, none⟩) (Kd.R_types HO_103000.out BK102.out (by decide)) (fun _ hk => hk.2) (.slice Ao20 y103.length co20)) (fun _ hk => ⟨hk.1.1, hk.1.2⟩)⟩, ⟨by (with_reducible repeat (first | apply Kd.R_alloc | apply Kd.R_drewN | apply Kd.R_drew)); exact Kd.R_mono (Kd.R_far (p := ⟨gb102, 2, none⟩) (Kd.R_types HO_103001.out BK102.out (by decide)) (fun _ hk => hk.2) (.slice Ao20 y103.length co20)) (fun _ hk => ⟨hk.1.1, hk.1.2⟩)⟩, ⟨by (with_reducible repeat (first | apply Kd.R_alloc | apply Kd.R_drewN | apply Kd.R_drew)); exact Kd.R_mono (Kd.R_far (p := ⟨gb102, 2, none⟩) (Kd.R_types HO105.out BK102.out (by decide)) (fun _ hk => hk.2) (.slice Ao20 y103.length co20)) (fun _ hk => ⟨hk.1.1, hk.1.2⟩)⟩, ⟨by (with_reducible repeat (first | refine blk_drewN ?_ _ | refine blk_drew ?_ | refine blk_alloc ?_ _)); refine blk_far ?_ NB101_102.out _; (with_reducible repeat (first | refine blk_drewN ?_ _ | refine blk_drew ?_ | refine blk_alloc ?_ _)); exact BK101.out⟩, ⟨by (with_reducible repeat (first | refine blk_drewN ?_ _ | refine blk_drew ?_ | refine blk_alloc ?_ _)); refine blk_put (cs := #[u103000, u103001, u103002]) ?_ 2 _ rfl; (with_reducible repeat (first | refine blk_drewN ?_ _ | refine blk_drew ?_ | refine blk_alloc ?_ _)); exact BK102.out⟩, ⟨by repeat (first | (with_reducible first | exact HB.out | apply below_alloc | apply pw_below_drewN | apply below_drew1 | refine below_set ?_ GE101.out | refine below_set ?_ GE102.out) | exact HB.out)⟩⟩
                  · rw [if_neg c16] at H
                    exact absurd H (by simp)
                · rw [if_neg c15] at H
                  have c15b0 : ((bt a0 x5_1) == 43) = false := beq_eq_false_iff_ne.mpr c15
                  have c15b1 : ((bt a0 x5_1) != 43) = true := bne_iff_ne.mpr c15
                  by_cases c22 : (bt a0 x5_1) = 45
                  · rw [if_pos c22] at H
                    have c22b0 : ((bt a0 x5_1) == 45) = true := beq_iff_eq.mpr c22
                    have c22b1 : ((bt a0 x5_1) != 45) = false := bne_eq_false_iff_eq.mpr c22
                    clear c22
                    by_cases c23 : x103002_1.length < 17592186044416
                    · rw [if_pos c23] at H
                      have LMc23 := Aside0.mk c23
                      clear c23
                      obtain ⟨y106, hy106⟩ : ∃ y_ : List Int, y_ = (x103002_1 ++ [(-1)]) := ⟨_, rfl⟩
                      replace H : (impl_ParseGauss.l0 kj5 a0 (wrap64 (x5_1 + 1)) x103000_1 x103001_1 y106) = some (r1, r2, r3, r4) := by first | (rw [hy106]; with_reducible exact H) | (have H2_ := (Option.bind_some _ _).symm.trans H; rw [hy106]; with_reducible exact H2_) | (have H2_ := (Option.bind_some _ _).symm.trans H; with_reducible exact H2_) | with_reducible exact H | (rw [hy106]; exact H) | exact H
                      have Ny106 := Aside0.mk hy106
                      clear hy106
                      have H' := Aside0.mk H
                      clear H
                      have p14 : 0 ≤ (x5_1 : Int) := of_decide_eq_true (by first | (with_reducible assumption) | assumption)
                      have q14 : x5_1 < (a0.size : Int) := of_decide_eq_true (by first | (with_reducible assumption) | assumption)
                      have hx14 := bt_at a0 x5_1
                      replace p14 := eq_true p14
                      replace q14 := eq_true q14
                      have hnb24 := NB102_101.out
                      have hnc24 := NB101_102.out
                      have hcz25_0 : wc.cell? ⟨gb102, 0, none⟩ = some (u103000) := (blk_cell BK102.out 0).trans rfl
                      have hcz25_1 : wc.cell? ⟨gb102, 1, none⟩ = some (u103001) := (blk_cell BK102.out 1).trans rfl
                      have hcz25_2 : wc.cell? ⟨gb102, 2, none⟩ = some (u103002) := (blk_cell BK102.out 2).trans rfl
                      have hfz25_0 := blk_frozen BK102.out 0
                      have hfz25_1 := blk_frozen BK102.out 1
                      have hfz25_2 := blk_frozen BK102.out 2
                      go_wp2_with (first | ((with_reducible refine gate_builtin (b := .append) (xs := #[.tmp 42, .tmp 43]) rfl ?_); (try (refine gate_guard (by rfl) ?_; dsimp only)); at_builtin; refine Kd.R_append (Kd.int .i64) (w0 := w) w.heap.size rfl (.tmp 42) (.tmp 43) 28 2 (.int .i64 0) 8 rfl Try.underlying28 info2 rfl (by decide) (by omega) u103002 x103002_1 (-1) [.int .i64 (-1)] (fun k_ => some k_ ≠ (u103000 : Value).ownBlock ∧ some k_ ≠ (u103001 : Value).ownBlock) (fun _ => False) rfl rfl ?aP (fun _ hk => hk.elim) ?aF ?aO ?aB ?aS ?aL ?_; (case aP => exact rfl); (case aB => exact (by repeat (first | (with_reducible first | exact HB.out | apply below_alloc | apply pw_below_drewN | apply below_drew1 | refine below_set ?_ GE101.out | refine below_set ?_ GE102.out) | exact HB.out))); (case aF => exact (fun k_ hk => ⟨Kd.fresh' (Kd.R_lt (by (with_reducible repeat (first | apply Kd.R_alloc | apply Kd.R_drewN | apply Kd.R_drew)); exact HO_103000.out)) k_ hk, Kd.fresh' (Kd.R_lt (by (with_reducible repeat (first | apply Kd.R_alloc | apply Kd.R_drewN | apply Kd.R_drew)); exact HO_103001.out)) k_ hk⟩)); (case aO => exact (by (with_reducible repeat (first | apply Kd.R_alloc | apply Kd.R_drewN | apply Kd.R_drew)); exact HO_103002.out)); (case aS => exact (below_size (by repeat (first | (with_reducible first | exact HB.out | apply below_alloc | apply pw_below_drewN | apply below_drew1 | refine below_set ?_ GE101.out | refine below_set ?_ GE102.out) | exact HB.out)))); (case aL => have := LMc23.out; omega); intro v107 w26 ho hb hg hat; rw [← Ny106.out] at ho; have n0_ := Aside0.mk (Kd.R_after (ok := (fun k_ => some k_ ≠ (u103001 : Value).ownBlock)) (by (with_reducible repeat (first | apply Kd.R_alloc | apply Kd.R_drewN | apply Kd.R_drew)); exact HO_103000.out) hg hat); have n1_ := Aside0.mk (Kd.R_after (ok := (fun k_ => some k_ ≠ (u103000 : Value).ownBlock)) (by (with_reducible repeat (first | apply Kd.R_alloc | apply Kd.R_drewN | apply Kd.R_drew)); exact HO_103001.out) hg hat); have n2_ := Aside0.mk (blk_grown (g := gb101) (o := .cells #[.slice none 0 0, .slice none 0 0, .slice none 0 0] 49 (0, 0)) (by (with_reducible repeat (first | refine blk_drewN ?_ _ | refine blk_drew ?_ | refine blk_alloc ?_ _)); exact BK101.out) hg (Kd.R_ne HO_103002.out BK101.out (by decide))); have n3_ := Aside0.mk (blk_grown (g := gb102) (o := .cells #[u103000, u103001, u103002] 49 (0, 0)) (by (with_reducible repeat (first | refine blk_drewN ?_ _ | refine blk_drew ?_ | refine blk_alloc ?_ _)); exact BK102.out) hg (Kd.R_ne HO_103002.out BK102.out (by decide))); have n4_ := Aside0.mk (hb); have n5_ := Aside0.mk (ho); clear HO_103000; clear HO_103001; clear BK101; clear BK102; clear HB; clear HO_103002; have HO_103000 := n0_; have HO_103001 := n1_; have BK101 := n2_; have BK102 := n3_; have HB := n4_; have HO108 := n5_; clear n0_ n1_ n2_ n3_ n4_ n5_; clear ho hb hg hat; obtain ⟨Ao27, co27, eo27⟩ := Kd.R_slice HO108.out; subst eo27; have hcz28_0 : w26.cell? ⟨gb102, 0, none⟩ = some (u103000) := (blk_cell BK102.out 0).trans rfl; have hcz28_1 : w26.cell? ⟨gb102, 1, none⟩ = some (u103001) := (blk_cell BK102.out 1).trans rfl; have hcz28_2 : w26.cell? ⟨gb102, 2, none⟩ = some (u103002) := (blk_cell BK102.out 2).trans rfl; have hfz28_0 := blk_frozen BK102.out 0; have hfz28_1 := blk_frozen BK102.out 1; have hfz28_2 := blk_frozen BK102.out 2))
                      go_roundg kj5
                      case measure => have := HK1.out; have := HJ5.out; omega
                      case rel => exact ⟨(wrap64 (x5_1 + 1)), (x103000_1), (x103001_1), (y106), (u103000), (u103001), (.slice Ao27 y106.length co27), (by first | rfl | (simp; done) | (simp [*]; done)), H', ⟨by have := HK1.out; have := HJ5.out; omega⟩, ⟨by (with_reducible repeat (first | apply Kd.R_alloc | apply Kd.R_drewN | apply Kd.R_drew)); exact Kd.R_mono (Kd.R_far (p := ⟨gb102, 2, none⟩) (Kd.R_types HO_103000.out BK102.out (by decide)) (fun _ hk => hk.2) (.slice Ao27 y106.length co27)) (fun _ hk => ⟨hk.1.1, hk.1.2⟩)⟩, ⟨by (with_reducible repeat (first | apply Kd.R_alloc | apply Kd.R_drewN | apply Kd.R_drew)); exact Kd.R_mono (Kd.R_far (p := ⟨gb102, 2, none⟩) (Kd.R_types HO_103001.out BK102.out (by decide)) (fun _ hk => hk.2) (.slice Ao27 y106.length co27)) (fun _ hk => ⟨hk.1.1, hk.1.2⟩)⟩, ⟨by (with_reducible repeat (first | apply Kd.R_alloc | apply Kd.R_drewN | apply Kd.R_drew)); exact Kd.R_mono (Kd.R_far (p := ⟨gb102, 2, none⟩) (Kd.R_types HO108.out BK102.out (by decide)) (fun _ hk => hk.2) (.slice Ao27 y106.length co27)) (fun _ hk => ⟨hk.1.1, hk.1.2⟩)⟩, ⟨by (with_reducible repeat (first | refine blk_drewN ?_ _ | refine blk_drew ?_ | refine blk_alloc ?_ _)); refine blk_far ?_ NB101_102.out _; (with_reducible repeat (first | refine blk_drewN ?_ _ | refine blk_drew ?_ | refine blk_alloc ?_ _)); exact BK101.out⟩, ⟨by (with_reducible repeat (first | refine blk_drewN ?_ _ | refine blk_drew ?_ | refine blk_alloc ?_ _)); refine blk_put (cs := #[u103000, u103001, u103002]) ?_ 2 _ rfl; (with_reducible repeat (first | refine blk_drewN ?_ _ | refine blk_drew ?_ | refine blk_alloc ?_ _)); exact BK102.out⟩, ⟨by repeat (first | (with_reducible first | exact HB.out | apply below_alloc | apply pw_below_drewN | apply below_drew1 | refine below_set ?_ GE101.out | refine below_set ?_ GE102.out) | exact HB.out)⟩⟩
                    · rw [if_neg c23] at H
                      exact absurd H (by simp)
                  · rw [if_neg c22] at H
                    have c22b0 : ((bt a0 x5_1) == 45) = false := beq_eq_false_iff_ne.mpr c22
                    have c22b1 : ((bt a0 x5_1) != 45) = true := bne_iff_ne.mpr c22
                    by_cases c29 : (bt a0 x5_1) = 111
                    · rw [if_pos c29] at H
                      have c29b0 : ((bt a0 x5_1) == 111) = true := beq_iff_eq.mpr c29
                      have c29b1 : ((bt a0 x5_1) != 111) = false := bne_eq_false_iff_eq.mpr c29
                      clear c29
                      by_cases c30 : x103001_1.length < 17592186044416
                      · rw [if_pos c30] at H
                        have LMc30 := Aside0.mk c30
                        clear c30
                        obtain ⟨y109, hy109⟩ : ∃ y_ : List Int, y_ = (x103001_1 ++ [1]) := ⟨_, rfl⟩
                        replace H : (impl_ParseGauss.l0 kj5 a0 (wrap64 (x5_1 + 1)) x103000_1 y109 x103002_1) = some (r1, r2, r3, r4) := by first | (rw [hy109]; with_reducible exact H) | (have H2_ := (Option.bind_some _ _).symm.trans H; rw [hy109]; with_reducible exact H2_) | (have H2_ := (Option.bind_some _ _).symm.trans H; with_reducible exact H2_) | with_reducible exact H | (rw [hy109]; exact H) | exact H
                        have Ny109 := Aside0.mk hy109
                        clear hy109
                        have H' := Aside0.mk H
                        clear H
                        have p14 : 0 ≤ (x5_1 : Int) := of_decide_eq_true (by first | (with_reducible assumption) | assumption)
                        have q14 : x5_1 < (a0.size : Int) := of_decide_eq_true (by first | (with_reducible assumption) | assumption)
                        have hx14 := bt_at a0 x5_1
                        replace p14 := eq_true p14
                        replace q14 := eq_true q14
                        have hnb31 := NB102_101.out
                        have hnc31 := NB101_102.out
                        have hcz32_0 : wc.cell? ⟨gb102, 0, none⟩ = some (u103000) := (blk_cell BK102.out 0).trans rfl
                        have hcz32_1 : wc.cell? ⟨gb102, 1, none⟩ = some (u103001) := (blk_cell BK102.out 1).trans rfl
                        have hcz32_2 : wc.cell? ⟨gb102, 2, none⟩ = some (u103002) := (blk_cell BK102.out 2).trans rfl
                        have hfz32_0 := blk_frozen BK102.out 0
                        have hfz32_1 := blk_frozen BK102.out 1
                        have hfz32_2 := blk_frozen BK102.out 2
                        go_wp2_with (first | ((with_reducible refine gate_builtin (b := .append) (xs := #[.tmp 49, .tmp 50]) rfl ?_); (try (refine gate_guard (by rfl) ?_; dsimp only)); at_builtin; refine Kd.R_append (Kd.int .i64) (w0 := w) w.heap.size rfl (.tmp 49) (.tmp 50) 28 2 (.int .i64 0) 8 rfl Try.underlying28 info2 rfl (by decide) (by omega) u103001 x103001_1 1 [.int .i64 1] (fun k_ => some k_ ≠ (u103000 : Value).ownBlock ∧ some k_ ≠ (u103002 : Value).ownBlock) (fun _ => False) rfl rfl ?aP (fun _ hk => hk.elim) ?aF ?aO ?aB ?aS ?aL ?_; (case aP => exact rfl); (case aB => exact (by repeat (first | (with_reducible first | exact HB.out | apply below_alloc | apply pw_below_drewN | apply below_drew1 | refine below_set ?_ GE101.out | refine below_set ?_ GE102.out) | exact HB.out))); (case aF => exact (fun k_ hk => ⟨Kd.fresh' (Kd.R_lt (by (with_reducible repeat (first | apply Kd.R_alloc | apply Kd.R_drewN | apply Kd.R_drew)); exact HO_103000.out)) k_ hk, Kd.fresh' (Kd.R_lt (by (with_reducible repeat (first | apply Kd.R_alloc | apply Kd.R_drewN | apply Kd.R_drew)); exact HO_103002.out)) k_ hk⟩)); (case aO => exact (by (with_reducible repeat (first | apply Kd.R_alloc | apply Kd.R_drewN | apply Kd.R_drew)); exact HO_103001.out)); (case aS => exact (below_size (by repeat (first | (with_reducible first | exact HB.out | apply below_alloc | apply pw_below_drewN | apply below_drew1 | refine below_set ?_ GE101.out | refine below_set ?_ GE102.out) | exact HB.out)))); (case aL => have := LMc30.out; omega); intro v110 w33 ho hb hg hat; rw [← Ny109.out] at ho; have n0_ := Aside0.mk (Kd.R_after (ok := (fun k_ => some k_ ≠ (u103002 : Value).ownBlock)) (by (with_reducible repeat (first | apply Kd.R_alloc | apply Kd.R_drewN | apply Kd.R_drew)); exact Kd.R_mono HO_103000.out (fun _ hk => ⟨hk.2, hk.1⟩)) hg hat); have n1_ := Aside0.mk (Kd.R_after (ok := (fun k_ => some k_ ≠ (u103000 : Value).ownBlock)) (by (with_reducible repeat (first | apply Kd.R_alloc | apply Kd.R_drewN | apply Kd.R_drew)); exact HO_103002.out) hg hat); have n2_ := Aside0.mk (blk_grown (g := gb101) (o := .cells #[.slice none 0 0, .slice none 0 0, .slice none 0 0] 49 (0, 0)) (by (with_reducible repeat (first | refine blk_drewN ?_ _ | refine blk_drew ?_ | refine blk_alloc ?_ _)); exact BK101.out) hg (Kd.R_ne HO_103001.out BK101.out (by decide))); have n3_ := Aside0.mk (blk_grown (g := gb102) (o := .cells #[u103000, u103001, u103002] 49 (0, 0)) (by (with_reducible repeat (first | refine blk_drewN ?_ _ | refine blk_drew ?_ | refine blk_alloc ?_ _)); exact BK102.out) hg (Kd.R_ne HO_103001.out BK102.out (by decide))); have n4_ := Aside0.mk (hb); have n5_ := Aside0.mk (ho); clear HO_103000; clear HO_103002; clear BK101; clear BK102; clear HB; clear HO_103001; have HO_103000 := n0_; have HO_103002 := n1_; have BK101 := n2_; have BK102 := n3_; have HB := n4_; have HO111 := n5_; clear n0_ n1_ n2_ n3_ n4_ n5_; clear ho hb hg hat; obtain ⟨Ao34, co34, eo34⟩ := Kd.R_slice HO111.out; subst eo34; have hcz35_0 : w33.cell? ⟨gb102, 0, none⟩ = some (u103000) := (blk_cell BK102.out 0).trans rfl; have hcz35_1 : w33.cell? ⟨gb102, 1, none⟩ = some (u103001) := (blk_cell BK102.out 1).trans rfl; have hcz35_2 : w33.cell? ⟨gb102, 2, none⟩ = some (u103002) := (blk_cell BK102.out 2).trans rfl; have hfz35_0 := blk_frozen BK102.out 0; have hfz35_1 := blk_frozen BK102.out 1; have hfz35_2 := blk_frozen BK102.out 2))
                        go_roundg kj5
                        case measure => have := HK1.out; have := HJ5.out; omega
                        case rel => exact ⟨(wrap64 (x5_1 + 1)), (x103000_1), (y109), (x103002_1), (u103000), (.slice Ao34 y109.length co34), (u103002), (by first | rfl | (simp; done) | (simp [*]; done)), H', ⟨by have := HK1.out; have := HJ5.out; omega⟩, ⟨by (with_reducible repeat (first | apply Kd.R_alloc | apply Kd.R_drewN | apply Kd.R_drew)); exact Kd.R_mono (Kd.R_far (p := ⟨gb102, 1, none⟩) (Kd.R_types HO_103000.out BK102.out (by decide)) (fun _ hk => hk.2) (.slice Ao34 y109.length co34)) (fun _ hk => ⟨hk.1.2, hk.1.1⟩)⟩, ⟨by (with_reducible repeat (first | apply Kd.R_alloc | apply Kd.R_drewN | apply Kd.R_drew)); exact Kd.R_mono (Kd.R_far (p := ⟨gb102, 1, none⟩) (Kd.R_types HO111.out BK102.out (by decide)) (fun _ hk => hk.2) (.slice Ao34 y109.length co34)) (fun _ hk => ⟨hk.1.1, hk.1.2⟩)⟩, ⟨by (with_reducible repeat (first | apply Kd.R_alloc | apply Kd.R_drewN | apply Kd.R_drew)); exact Kd.R_mono (Kd.R_far (p := ⟨gb102, 1, none⟩) (Kd.R_types HO_103002.out BK102.out (by decide)) (fun _ hk => hk.2) (.slice Ao34 y109.length co34)) (fun _ hk => ⟨hk.1.1, hk.1.2⟩)⟩, ⟨by (with_reducible repeat (first | refine blk_drewN ?_ _ | refine blk_drew ?_ | refine blk_alloc ?_ _)); refine blk_far ?_ NB101_102.out _; (with_reducible repeat (first | refine blk_drewN ?_ _ | refine blk_drew ?_ | refine blk_alloc ?_ _)); exact BK101.out⟩, ⟨by (with_reducible repeat (first | refine blk_drewN ?_ _ | refine blk_drew ?_ | refine blk_alloc ?_ _)); refine blk_put (cs := #[u103000, u103001, u103002]) ?_ 1 _ rfl; (with_reducible repeat (first | refine blk_drewN ?_ _ | refine blk_drew ?_ | refine blk_alloc ?_ _)); exact BK102.out⟩, ⟨by repeat (first | (with_reducible first | exact HB.out | apply below_alloc | apply pw_below_drewN | apply below_drew1 | refine below_set ?_ GE101.out | refine below_set ?_ GE102.out) | exact HB.out)⟩⟩
                      · rw [if_neg c30] at H
                        exact absurd H (by simp)
                    · rw [if_neg c29] at H
                      have c29b0 : ((bt a0 x5_1) == 111) = false := beq_eq_false_iff_ne.mpr c29
                      have c29b1 : ((bt a0 x5_1) != 111) = true := bne_iff_ne.mpr c29
                      by_cases c36 : (bt a0 x5_1) = 117
                      · rw [if_pos c36] at H
                        have c36b0 : ((bt a0 x5_1) == 117) = true := beq_iff_eq.mpr c36
                        have c36b1 : ((bt a0 x5_1) != 117) = false := bne_eq_false_iff_eq.mpr c36
                        clear c36
                        by_cases c37 : x103001_1.length < 17592186044416
                        · rw [if_pos c37] at H
                          have LMc37 := Aside0.mk c37
                          clear c37
                          obtain ⟨y112, hy112⟩ : ∃ y_ : List Int, y_ = (x103001_1 ++ [0]) := ⟨_, rfl⟩
                          replace H : (impl_ParseGauss.l0 kj5 a0 (wrap64 (x5_1 + 1)) x103000_1 y112 x103002_1) = some (r1, r2, r3, r4) := by first | (rw [hy112]; with_reducible exact H) | (have H2_ := (Option.bind_some _ _).symm.trans H; rw [hy112]; with_reducible exact H2_) | (have H2_ := (Option.bind_some _ _).symm.trans H; with_reducible exact H2_) | with_reducible exact H | (rw [hy112]; exact H) | exact H
                          have Ny112 := Aside0.mk hy112
                          clear hy112
                          have H' := Aside0.mk H
                          clear H
                          have p14 : 0 ≤ (x5_1 : Int) := of_decide_eq_true (by first | (with_reducible assumption) | assumption)
                          have q14 : x5_1 < (a0.size : Int) := of_decide_eq_true (by first | (with_reducible assumption) | assumption)
                          have hx14 := bt_at a0 x5_1
                          replace p14 := eq_true p14
                          replace q14 := eq_true q14
                          have hnb38 := NB102_101.out
                          have hnc38 := NB101_102.out
                          have hcz39_0 : wc.cell? ⟨gb102, 0, none⟩ = some (u103000) := (blk_cell BK102.out 0).trans rfl
                          have hcz39_1 : wc.cell? ⟨gb102, 1, none⟩ = some (u103001) := (blk_cell BK102.out 1).trans rfl
                          have hcz39_2 : wc.cell? ⟨gb102, 2, none⟩ = some (u103002) := (blk_cell BK102.out 2).trans rfl
                          have hfz39_0 := blk_frozen BK102.out 0
                          have hfz39_1 := blk_frozen BK102.out 1
                          have hfz39_2 := blk_frozen BK102.out 2
                          go_wp2_with (first | ((with_reducible refine gate_builtin (b := .append) (xs := #[.tmp 56, .tmp 57]) rfl ?_); (try (refine gate_guard (by rfl) ?_; dsimp only)); at_builtin; refine Kd.R_append (Kd.int .i64) (w0 := w) w.heap.size rfl (.tmp 56) (.tmp 57) 28 2 (.int .i64 0) 8 rfl Try.underlying28 info2 rfl (by decide) (by omega) u103001 x103001_1 0 [.int .i64 0] (fun k_ => some k_ ≠ (u103000 : Value).ownBlock ∧ some k_ ≠ (u103002 : Value).ownBlock) (fun _ => False) rfl rfl ?aP (fun _ hk => hk.elim) ?aF ?aO ?aB ?aS ?aL ?_; (case aP => exact rfl); (case aB => exact (by repeat (first | (with_reducible first | exact HB.out | apply below_alloc | apply pw_below_drewN | apply below_drew1 | refine below_set ?_ GE101.out | refine below_set ?_ GE102.out) | exact HB.out))); (case aF => exact (fun k_ hk => ⟨Kd.fresh' (Kd.R_lt (by (with_reducible repeat (first | apply Kd.R_alloc | apply Kd.R_drewN | apply Kd.R_drew)); exact HO_103000.out)) k_ hk, Kd.fresh' (Kd.R_lt (by (with_reducible repeat (first | apply Kd.R_alloc | apply Kd.R_drewN | apply Kd.R_drew)); exact HO_103002.out)) k_ hk⟩)); (case aO => exact (by (with_reducible repeat (first | apply Kd.R_alloc | apply Kd.R_drewN | apply Kd.R_drew)); exact HO_103001.out)); (case aS => exact (below_size (by repeat (first | (with_reducible first | exact HB.out | apply below_alloc | apply pw_below_drewN | apply below_drew1 | refine below_set ?_ GE101.out | refine below_set ?_ GE102.out) | exact HB.out)))); (case aL => have := LMc37.out; omega); intro v113 w40 ho hb hg hat; rw [← Ny112.out] at ho; have n0_ := Aside0.mk (Kd.R_after (ok := (fun k_ => some k_ ≠ (u103002 : Value).ownBlock)) (by (with_reducible repeat (first | apply Kd.R_alloc | apply Kd.R_drewN | apply Kd.R_drew)); exact Kd.R_mono HO_103000.out (fun _ hk => ⟨hk.2, hk.1⟩)) hg hat); have n1_ := Aside0.mk (Kd.R_after (ok := (fun k_ => some k_ ≠ (u103000 : Value).ownBlock)) (by (with_reducible repeat (first | apply Kd.R_alloc | apply Kd.R_drewN | apply Kd.R_drew)); exact HO_103002.out) hg hat); have n2_ := Aside0.mk (blk_grown (g := gb101) (o := .cells #[.slice none 0 0, .slice none 0 0, .slice none 0 0] 49 (0, 0)) (by (with_reducible repeat (first | refine blk_drewN ?_ _ | refine blk_drew ?_ | refine blk_alloc ?_ _)); exact BK101.out) hg (Kd.R_ne HO_103001.out BK101.out (by decide))); have n3_ := Aside0.mk (blk_grown (g := gb102) (o := .cells #[u103000, u103001, u103002] 49 (0, 0)) (by (with_reducible repeat (first | refine blk_drewN ?_ _ | refine blk_drew ?_ | refine blk_alloc ?_ _)); exact BK102.out) hg (Kd.R_ne HO_103001.out BK102.out (by decide))); have n4_ := Aside0.mk (hb); have n5_ := Aside0.mk (ho); clear HO_103000; clear HO_103002; clear BK101; clear BK102; clear HB; clear HO_103001; have HO_103000 := n0_; have HO_103002 := n1_; have BK101 := n2_; have BK102 := n3_; have HB := n4_; have HO114 := n5_; clear n0_ n1_ n2_ n3_ n4_ n5_; clear ho hb hg hat; obtain ⟨Ao41, co41, eo41⟩ := Kd.R_slice HO114.out; subst eo41; have hcz42_0 : w40.cell? ⟨gb102, 0, none⟩ = some (u103000) := (blk_cell BK102.out 0).trans rfl; have hcz42_1 : w40.cell? ⟨gb102, 1, none⟩ = some (u103001) := (blk_cell BK102.out 1).trans rfl; have hcz42_2 : w40.cell? ⟨gb102, 2, none⟩ = some (u103002) := (blk_cell BK102.out 2).trans rfl; have hfz42_0 := blk_frozen BK102.out 0; have hfz42_1 := blk_frozen BK102.out 1; have hfz42_2 := blk_frozen BK102.out 2))
                          go_roundg kj5
                          case measure => have := HK1.out; have := HJ5.out; omega
                          case rel => exact ⟨(wrap64 (x5_1 + 1)), (x103000_1), (y112), (x103002_1), (u103000), (.slice Ao41 y112.length co41), (u103002), (by first | rfl | (simp; done) | (simp [*]; done)), H', ⟨by have := HK1.out; have := HJ5.out; omega⟩, ⟨by (with_reducible repeat (first | apply Kd.R_alloc | apply Kd.R_drewN | apply Kd.R_drew)); exact Kd.R_mono (Kd.R_far (p := ⟨gb102, 1, none⟩) (Kd.R_types HO_103000.out BK102.out (by decide)) (fun _ hk => hk.2) (.slice Ao41 y112.length co41)) (fun _ hk => ⟨hk.1.2, hk.1.1⟩)⟩, ⟨by (with_reducible repeat (first | apply Kd.R_alloc | apply Kd.R_drewN | apply Kd.R_drew)); exact Kd.R_mono (Kd.R_far (p := ⟨gb102, 1, none⟩) (Kd.R_types HO114.out BK102.out (by decide)) (fun _ hk => hk.2) (.slice Ao41 y112.length co41)) (fun _ hk => ⟨hk.1.1, hk.1.2⟩)⟩, ⟨by (with_reducible repeat (first | apply Kd.R_alloc | apply Kd.R_drewN | apply Kd.R_drew)); exact Kd.R_mono (Kd.R_far (p := ⟨gb102, 1, none⟩) (Kd.R_types HO_103002.out BK102.out (by decide)) (fun _ hk => hk.2) (.slice Ao41 y112.length co41)) (fun _ hk => ⟨hk.1.1, hk.1.2⟩)⟩, ⟨by (with_reducible repeat (first | refine blk_drewN ?_ _ | refine blk_drew ?_ | refine blk_alloc ?_ _)); refine blk_far ?_ NB101_102.out _; (with_reducible repeat (first | refine blk_drewN ?_ _ | refine blk_drew ?_ | refine blk_alloc ?_ _)); exact BK101.out⟩, ⟨by (with_reducible repeat (first | refine blk_drewN ?_ _ | refine blk_drew ?_ | refine blk_alloc ?_ _)); refine blk_put (cs := #[u103000, u103001, u103002]) ?_ 1 _ rfl; (with_reducible repeat (first | refine blk_drewN ?_ _ | refine blk_drew ?_ | refine blk_alloc ?_ _)); exact BK102.out⟩, ⟨by repeat (first | (with_reducible first | exact HB.out | apply below_alloc | apply pw_below_drewN | apply below_drew1 | refine below_set ?_ GE101.out | refine below_set ?_ GE102.out) | exact HB.out)⟩⟩
                        · rw [if_neg c37] at H
                          exact absurd H (by simp)
                      · rw [if_neg c36] at H
                        have c36b0 : ((bt a0 x5_1) == 117) = false := beq_eq_false_iff_ne.mpr c36
                        have c36b1 : ((bt a0 x5_1) != 117) = true := bne_iff_ne.mpr c36
                        by_cases c44 : x103000_1.length < 17592186044416
                        · rw [if_pos c44] at H
                          have LMc44 := Aside0.mk c44
                          clear c44
                          obtain ⟨y115, hy115⟩ : ∃ y_ : List Int, y_ = (x103000_1 ++ [wrap64 ((wrap64 (bt a0 x5_1)) - 97)]) := ⟨_, rfl⟩
                          replace H : (impl_ParseGauss.l0 kj5 a0 (wrap64 (x5_1 + 1)) y115 x103001_1 x103002_1) = some (r1, r2, r3, r4) := by first | (rw [hy115]; with_reducible exact H) | (have H2_ := (Option.bind_some _ _).symm.trans H; rw [hy115]; with_reducible exact H2_) | (have H2_ := (Option.bind_some _ _).symm.trans H; with_reducible exact H2_) | with_reducible exact H | (rw [hy115]; exact H) | exact H
                          have Ny115 := Aside0.mk hy115
                          clear hy115
                          have H' := Aside0.mk H
                          clear H
                          have p14 : 0 ≤ (x5_1 : Int) := of_decide_eq_true (by first | (with_reducible assumption) | assumption)
                          have q14 : x5_1 < (a0.size : Int) := of_decide_eq_true (by first | (with_reducible assumption) | assumption)
                          have hx14 := bt_at a0 x5_1
                          replace p14 := eq_true p14
                          replace q14 := eq_true q14
                          try go_wp2
                          have n0_ := Aside0.mk (Kd.R_drew HO_103000.out)
                          have n1_ := Aside0.mk (Kd.R_drew HO_103001.out)
                          have n2_ := Aside0.mk (Kd.R_drew HO_103002.out)
                          have n3_ := Aside0.mk (blk_drew BK101.out)
                          have n4_ := Aside0.mk (blk_drew BK102.out)
                          have n5_ := Aside0.mk (below_drew1 HB.out)
                          clear HO_103000
                          clear HO_103001
                          clear HO_103002
                          clear BK101
                          clear BK102
                          clear HB
                          have HO_103000 := n0_
                          have HO_103001 := n1_
                          have HO_103002 := n2_
                          have BK101 := n3_
                          have BK102 := n4_
                          have HB := n5_
                          clear n0_ n1_ n2_ n3_ n4_ n5_
                          have p43 : 0 ≤ (x5_1 : Int) := of_decide_eq_true (by first | (with_reducible assumption) | assumption)
                          have q43 : x5_1 < (a0.size : Int) := of_decide_eq_true (by first | (with_reducible assumption) | assumption)
                          have hx43 := bt_at a0 x5_1
                          replace p43 := eq_true p43
                          replace q43 := eq_true q43
                          refine start_ (n := 11) (S := fun w' => w'.cell? ⟨gb102, 0, none⟩ = some (u103000) ∧ w'.cell? ⟨gb102, 1, none⟩ = some (u103001) ∧ w'.cell? ⟨gb102, 2, none⟩ = some (u103002)) (ds := [10]) #[false, false, false, false, false, false, false, false, false, false, false] (by kernel_rfl) rfl rfl ⟨(blk_cell BK102.out 0).trans rfl, (blk_cell BK102.out 1).trans rfl, (blk_cell BK102.out 2).trans rfl⟩ (fun hHeld => ?_); refine with_tabW impl_ParseGauss.tab6 impl_ParseGauss.bits6 (fun HT_ HW_ => ?_)
                          generalize wc.drew = w45 at HO_103000 HO_103001 HO_103002 BK101 BK102 HB hHeld ⊢
                          refine pure_ (i := 0) (N := some 22) (v := ?_) (a' := ?_) #[true, false, false, false, false, false, false, false, false, false, false] rfl rfl (any_of HT_.out (by kernel_rfl)) (fun _ _ _ h => h) (Or.inl ⟨by rfl, ?_⟩) ?_ ?_
                          rotate_left
                          · intro w'
                            go_simp
                            with_reducible rfl
                          rotate_left
                          · simp only [Act.put, List.setIfInBounds_toArray, List.set_cons_zero, List.set_cons_succ, i64_w, i32_w]
                            rfl
                          refine pure_ (i := 2) (N := some 24) (v := ?_) (a' := ?_) #[true, false, true, false, false, false, false, false, false, false, false] rfl rfl (any_of HT_.out (by kernel_rfl)) (fun _ _ _ h => h) (Or.inl ⟨by rfl, ?_⟩) ?_ ?_
                          rotate_left
                          · intro w'
                            go_simp
                            with_reducible rfl
                          rotate_left
                          · simp only [Act.put, List.setIfInBounds_toArray, List.set_cons_zero, List.set_cons_succ, i64_w, i32_w]
                            rfl
                          refine pure_ (i := 3) (N := some 25) (v := ?_) (a' := ?_) #[true, false, true, true, false, false, false, false, false, false, false] rfl rfl (any_of HT_.out (by kernel_rfl)) (fun _ _ _ h => h) (Or.inl ⟨by rfl, ?_⟩) ?_ ?_
                          rotate_left
                          · intro w'
                            go_simp
                            with_reducible rfl
                          rotate_left
                          · simp only [Act.put, List.setIfInBounds_toArray, List.set_cons_zero, List.set_cons_succ, i64_w, i32_w]
                            rfl
                          refine take_ (i := 1) (N := some 23) (v := ?_) (a' := ?_) #[true, true, true, true, false, false, false, false, false, false, false] rfl rfl (take_ofW HT_.out HW_.out (by kernel_rfl)) (fun _ _ _ h => h) (Or.inl ⟨by rfl, ?_⟩) hHeld ?_ ?_
                          rotate_left
                          · rintro w' ⟨s0, s1, s2⟩
                            go_simp
                            with_reducible rfl
                          rotate_left
                          · simp only [Act.put, List.setIfInBounds_toArray, List.set_cons_zero, List.set_cons_succ, i64_w, i32_w]
                            rfl
                          refine take_ (i := 4) (N := some 26) (v := ?_) (a' := ?_) #[true, true, true, true, true, false, false, false, false, false, false] rfl rfl (take_ofW HT_.out HW_.out (by kernel_rfl)) (fun _ _ _ h => h) (Or.inl ⟨by rfl, ?_⟩) hHeld ?_ ?_
                          rotate_left
                          · rintro w' ⟨s0, s1, s2⟩
                            go_simp
                            with_reducible rfl
                          rotate_left
                          · simp only [Act.put, List.setIfInBounds_toArray, List.set_cons_zero, List.set_cons_succ, i64_w, i32_w]
                            rfl
                          refine pure_ (i := 5) (N := some 27) (v := ?_) (a' := ?_) #[true, true, true, true, true, true, false, false, false, false, false] rfl rfl (any_of HT_.out (by kernel_rfl)) (fun _ _ _ h => h) (Or.inl ⟨by rfl, ?_⟩) ?_ ?_
                          rotate_left
                          · intro w'
                            go_simp
                            with_reducible rfl
                          rotate_left
                          · simp only [Act.put, List.setIfInBounds_toArray, List.set_cons_zero, List.set_cons_succ, i64_w, i32_w]
                            rfl
                          refine pure_ (i := 6) (N := some 28) (v := ?_) (a' := ?_) #[true, true, true, true, true, true, true, false, false, false, false] rfl rfl (any_of HT_.out (by kernel_rfl)) (fun _ _ _ h => h) (Or.inl ⟨by rfl, ?_⟩) ?_ ?_
                          rotate_left
                          · intro w'
                            go_simp
                            with_reducible rfl
                          rotate_left
                          · simp only [Act.put, List.setIfInBounds_toArray, List.set_cons_zero, List.set_cons_succ, i64_w, i32_w]
                            rfl
                          refine one_ (i := 7) (N := some 29) #[true, true, true, true, true, true, true, true, false, false, false] rfl rfl (one_of HT_.out (by kernel_rfl)) (by decide) (fun K hK => ?_)
                          refine value_ (w1 := ?_) (v := ?_) (by rfl) rfl ?_ ?_
                          rotate_left 2
                          · go_simp
                            constructor
                            · rfl
                            · rfl
                          refine hK.out _ _ ⟨(blk_cell (blk_alloc BK102.out _) 0).trans rfl, (blk_cell (blk_alloc BK102.out _) 1).trans rfl, (blk_cell (blk_alloc BK102.out _) 2).trans rfl⟩ (fun hHeld => ?_)
                          clear hK K
                          refine norm_ (a' := ?_) ?_ ?_
                          rotate_left
                          · show Act.put _ (some 29) _ = _
                            simp only [Act.put, List.setIfInBounds_toArray, List.set_cons_zero, List.set_cons_succ, i64_w, i32_w]
                            rfl
                          refine one_ (i := 8) (N := some 30) #[true, true, true, true, true, true, true, true, true, false, false] rfl rfl (one_of HT_.out (by kernel_rfl)) (by decide) (fun K hK => ?_)
                          refine Kd.R_append_step (Kd.int .i64) (w0 := w) w.heap.size (by rfl) (.tmp 23) (.tmp 29) 28 2 (.int .i64 0) 8 rfl Try.underlying28 info2 rfl (by decide) (by omega) u103000 x103000_1 (wrap64 ((wrap64 (bt a0 x5_1)) - 97)) [.int .i64 (wrap64 ((wrap64 (bt a0 x5_1)) - 97))] (fun k_ => some k_ ≠ (u103001 : Value).ownBlock ∧ some k_ ≠ (u103002 : Value).ownBlock) (fun _ => False) rfl rfl ?aP (fun _ hk => hk.elim) ?aF ?aO ?aB ?aS ?aL ?_
                          (case aP => exact rfl)
                          (case aB => exact (by repeat (first | (with_reducible first | exact HB.out | apply below_alloc | apply pw_below_drewN | apply below_drew1 | refine below_set ?_ GE101.out | refine below_set ?_ GE102.out) | exact HB.out)))
                          (case aF => exact (fun k_ hk => ⟨Kd.fresh' (Kd.R_lt (by (with_reducible repeat (first | apply Kd.R_alloc | apply Kd.R_drewN | apply Kd.R_drew)); exact HO_103001.out)) k_ hk, Kd.fresh' (Kd.R_lt (by (with_reducible repeat (first | apply Kd.R_alloc | apply Kd.R_drewN | apply Kd.R_drew)); exact HO_103002.out)) k_ hk⟩))
                          (case aO => exact (by (with_reducible repeat (first | apply Kd.R_alloc | apply Kd.R_drewN | apply Kd.R_drew)); exact HO_103000.out))
                          (case aS => exact (below_size (by repeat (first | (with_reducible first | exact HB.out | apply below_alloc | apply pw_below_drewN | apply below_drew1 | refine below_set ?_ GE101.out | refine below_set ?_ GE102.out) | exact HB.out))))
                          (case aL => have := LMc44.out; omega)
                          intro v116 w46 ho hb hg hat
                          rw [← Ny115.out] at ho
                          have n0_ := Aside0.mk (Kd.R_after (ok := (fun k_ => some k_ ≠ (u103002 : Value).ownBlock)) (by (with_reducible repeat (first | apply Kd.R_alloc | apply Kd.R_drewN | apply Kd.R_drew)); exact Kd.R_mono HO_103001.out (fun _ hk => ⟨hk.2, hk.1⟩)) hg hat)
                          have n1_ := Aside0.mk (Kd.R_after (ok := (fun k_ => some k_ ≠ (u103001 : Value).ownBlock)) (by (with_reducible repeat (first | apply Kd.R_alloc | apply Kd.R_drewN | apply Kd.R_drew)); exact Kd.R_mono HO_103002.out (fun _ hk => ⟨hk.2, hk.1⟩)) hg hat)
                          have n2_ := Aside0.mk (blk_grown (g := gb101) (o := .cells #[.slice none 0 0, .slice none 0 0, .slice none 0 0] 49 (0, 0)) (by (with_reducible repeat (first | refine blk_drewN ?_ _ | refine blk_drew ?_ | refine blk_alloc ?_ _)); exact BK101.out) hg (Kd.R_ne HO_103000.out BK101.out (by decide)))
                          have n3_ := Aside0.mk (blk_grown (g := gb102) (o := .cells #[u103000, u103001, u103002] 49 (0, 0)) (by (with_reducible repeat (first | refine blk_drewN ?_ _ | refine blk_drew ?_ | refine blk_alloc ?_ _)); exact BK102.out) hg (Kd.R_ne HO_103000.out BK102.out (by decide)))
                          have n4_ := Aside0.mk (hb)
                          have n5_ := Aside0.mk (ho)
                          clear HO_103001
                          clear HO_103002
                          clear BK101
                          clear BK102
                          clear HB
                          clear HO_103000
                          have HO_103001 := n0_
                          have HO_103002 := n1_
                          have BK101 := n2_
                          have BK102 := n3_
                          have HB := n4_
                          have HO117 := n5_
                          clear n0_ n1_ n2_ n3_ n4_ n5_
                          clear ho hb hg hat
                          obtain ⟨Ao47, co47, eo47⟩ := Kd.R_slice HO117.out
                          (first | subst eo47 | (injection eo47 with f1_ f2_ f3_; have f4_ := f1_.symm; have f5_ := f3_.symm; clear f1_ f2_ f3_; subst f4_; subst f5_))
                          refine hK.out _ _ ⟨(blk_cell BK102.out 0).trans rfl, (blk_cell BK102.out 1).trans rfl, (blk_cell BK102.out 2).trans rfl⟩ (fun hHeld => ?_)
                          clear hK K
                          refine norm_ (a' := ?_) ?_ ?_
                          rotate_left
                          · show Act.put _ (some 30) _ = _
                            simp only [Act.put, List.setIfInBounds_toArray, List.set_cons_zero, List.set_cons_succ, i64_w, i32_w]
                            rfl
                          refine pure_ (i := 9) (N := some 31) (v := ?_) (a' := ?_) #[true, true, true, true, true, true, true, true, true, true, false] rfl rfl (any_of HT_.out (by kernel_rfl)) (fun _ _ _ h => h) (Or.inl ⟨by rfl, ?_⟩) ?_ ?_
                          rotate_left
                          · intro w'
                            go_simp
                            with_reducible rfl
                          rotate_left
                          · simp only [Act.put, List.setIfInBounds_toArray, List.set_cons_zero, List.set_cons_succ, i64_w, i32_w]
                            rfl
                          refine last_ (i := 10) (N := none) #[true, true, true, true, true, true, true, true, true, true, true] rfl rfl (one_of HT_.out (by kernel_rfl)) (by decide) (fun K hK => ?_)
                          have hs48 : w46.cell? ⟨gb102, 0, none⟩ = some (u103000) := (blk_cell BK102.out 0).trans rfl
                          have hfs48 := blk_frozen BK102.out 0
                          have hns48_0 := NB101_102.out
                          have hms48_0 := NB102_101.out
                          refine skip_ (w1 := ?_) (by rfl) rfl ?_ ?_
                          rotate_left
                          · go_simp
                            rfl
                          refine hK.out _ _ ?_
                          clear hK K
                          refine done_ (done_of HT_.out (by kernel_rfl)) ?_
                          try go_wp2
                          go_roundg kj5
                          case measure => have := HK1.out; have := HJ5.out; omega
                          case rel => exact ⟨(wrap64 (x5_1 + 1)), (y115), (x103001_1), (x103002_1), (.slice Ao47 y115.length co47), (u103001), (u103002), (by first | rfl | (simp; done) | (simp [*]; done)), H', ⟨by have := HK1.out; have := HJ5.out; omega⟩, ⟨by (with_reducible repeat (first | apply Kd.R_alloc | apply Kd.R_drewN | apply Kd.R_drew)); exact Kd.R_mono (Kd.R_far (p := ⟨gb102, 0, none⟩) (Kd.R_types HO117.out BK102.out (by decide)) (fun _ hk => hk.2) (.slice Ao47 y115.length co47)) (fun _ hk => ⟨hk.1.1, hk.1.2⟩)⟩, ⟨by (with_reducible repeat (first | apply Kd.R_alloc | apply Kd.R_drewN | apply Kd.R_drew)); exact Kd.R_mono (Kd.R_far (p := ⟨gb102, 0, none⟩) (Kd.R_types HO_103001.out BK102.out (by decide)) (fun _ hk => hk.2) (.slice Ao47 y115.length co47)) (fun _ hk => ⟨hk.1.2, hk.1.1⟩)⟩, ⟨by (with_reducible repeat (first | apply Kd.R_alloc | apply Kd.R_drewN | apply Kd.R_drew)); exact Kd.R_mono (Kd.R_far (p := ⟨gb102, 0, none⟩) (Kd.R_types HO_103002.out BK102.out (by decide)) (fun _ hk => hk.2) (.slice Ao47 y115.length co47)) (fun _ hk => ⟨hk.1.2, hk.1.1⟩)⟩, ⟨by (with_reducible repeat (first | refine blk_drewN ?_ _ | refine blk_drew ?_ | refine blk_alloc ?_ _)); refine blk_far ?_ NB101_102.out _; (with_reducible repeat (first | refine blk_drewN ?_ _ | refine blk_drew ?_ | refine blk_alloc ?_ _)); exact BK101.out⟩, ⟨by (with_reducible repeat (first | refine blk_drewN ?_ _ | refine blk_drew ?_ | refine blk_alloc ?_ _)); refine blk_put (cs := #[u103000, u103001, u103002]) ?_ 0 _ rfl; (with_reducible repeat (first | refine blk_drewN ?_ _ | refine blk_drew ?_ | refine blk_alloc ?_ _)); exact BK102.out⟩, ⟨by repeat (first | (with_reducible first | exact HB.out | apply below_alloc | apply pw_below_drewN | apply below_drew1 | refine below_set ?_ GE101.out | refine below_set ?_ GE102.out) | exact HB.out)⟩⟩
                        · rw [if_neg c44] at H
                          exact absurd H (by simp)
              · rw [if_neg c13] at H
                exact absurd H (by simp)
            · rw [if_neg c12] at H
              exact absurd H (by simp)
          · replace c11 := Bool.eq_false_iff.mpr c11
            subst c11
            have H1 : ((impl_IsGauss.f kj5 x103000_1 x103001_1 x103002_1).bind fun t118 => (if t118 = true then ((impl_gaussText.f x103000_1 x103001_1 x103002_1).bind fun t119 => (if t119.toList = a0.toList then (some (x103000_1, x103001_1, x103002_1, 0)) else (some (([] : List Int), ([] : List Int), ([] : List Int), 6)))) else (some (([] : List Int), ([] : List Int), ([] : List Int), 6)))) = some (r1, r2, r3, r4) := by rw [if_neg (show ¬ (false = true) by decide)] at H; exact H
            clear H
            have H := H1
            clear H1
            replace H := Option.bind_eq_some_iff.mp H
            obtain ⟨t118, A490, H⟩ := H
            replace H : (if t118 = true then ((impl_gaussText.f x103000_1 x103001_1 x103002_1).bind fun t119 => (if t119.toList = a0.toList then (some (x103000_1, x103001_1, x103002_1, 0)) else (some (([] : List Int), ([] : List Int), ([] : List Int), 6)))) else (some (([] : List Int), ([] : List Int), ([] : List Int), 6))) = some (r1, r2, r3, r4) := H
            have A49 := Aside0.mk A490
            clear A490
            by_cases c50 : t118 = true
            · subst c50
              have H1 : ((impl_gaussText.f x103000_1 x103001_1 x103002_1).bind fun t119 => (if t119.toList = a0.toList then (some (x103000_1, x103001_1, x103002_1, 0)) else (some (([] : List Int), ([] : List Int), ([] : List Int), 6)))) = some (r1, r2, r3, r4) := by rw [if_pos rfl] at H; exact H
              clear H
              have H := H1
              clear H1
              replace H := Option.bind_eq_some_iff.mp H
              obtain ⟨t119, A510, H⟩ := H
              replace H : (if t119.toList = a0.toList then (some (x103000_1, x103001_1, x103002_1, 0)) else (some (([] : List Int), ([] : List Int), ([] : List Int), 6))) = some (r1, r2, r3, r4) := H
              have A51 := Aside0.mk A510
              clear A510
              by_cases c52 : t119.toList = a0.toList
              · rw [if_pos c52] at H
                have c52b0 : (t119.toList == a0.toList) = true := beq_iff_eq.mpr c52
                have c52b1 : (t119.toList != a0.toList) = false := bne_eq_false_iff_eq.mpr c52
                clear c52
                simp only [Option.some.injEq, Prod.mk.injEq] at H
                obtain ⟨rfl, rfl, rfl, rfl⟩ := H
                have hnb53 := NB102_101.out
                have hnc53 := NB101_102.out
                have hcz54_0 : wc.cell? ⟨gb102, 0, none⟩ = some (u103000) := (blk_cell BK102.out 0).trans rfl
                have hcz54_1 : wc.cell? ⟨gb102, 1, none⟩ = some (u103001) := (blk_cell BK102.out 1).trans rfl
                have hcz54_2 : wc.cell? ⟨gb102, 2, none⟩ = some (u103002) := (blk_cell BK102.out 2).trans rfl
                have hfz54_0 := blk_frozen BK102.out 0
                have hfz54_1 := blk_frozen BK102.out 1
                have hfz54_2 := blk_frozen BK102.out 2
                obtain ⟨Ao55, co55, eo55⟩ := Kd.R_slice HO_103000.out
                subst eo55
                obtain ⟨Ao56, co56, eo56⟩ := Kd.R_slice HO_103001.out
                subst eo56
                obtain ⟨Ao57, co57, eo57⟩ := Kd.R_slice HO_103002.out
                subst eo57
                go_wp2_with (first | ((with_reducible refine gate_callee (f := 61) rfl ?_); refine goesL_ (some 61) rfl rfl Try.func61 (by kernel_rfl) rfl #[.agg #[.slice Ao55 x103000_1.length co55, .slice Ao56 x103001_1.length co56, .slice Ao57 x103002_1.length co57]] rfl (by (try simp only [List.map_toArray, List.map_cons, List.map_nil]); first | done | rfl | (simp only [List.length_drop, List.length_take]; rfl)) ?_; (with_reducible refine (impl_IsGauss.calls kj5 _ _ x103000_1 _ _ x103001_1 _ _ x103002_1 true _ ?side1 ?side2 ?side3 ?side4 ?side5 ?side6 A49.out).mono ?_); (case side1 => repeat (first | exact (Kd.R_reads' HO_103000.out).2.2 | (with_reducible refine Kd.C_alloc ?_ _) | (with_reducible refine Kd.C_drewN ?_ _) | (with_reducible refine Kd.C_drew ?_))); (case side2 => exact (Kd.R_reads' HO_103000.out).2.1); (case side3 => repeat (first | exact (Kd.R_reads' HO_103001.out).2.2 | (with_reducible refine Kd.C_alloc ?_ _) | (with_reducible refine Kd.C_drewN ?_ _) | (with_reducible refine Kd.C_drew ?_))); (case side4 => exact (Kd.R_reads' HO_103001.out).2.1); (case side5 => repeat (first | exact (Kd.R_reads' HO_103002.out).2.2 | (with_reducible refine Kd.C_alloc ?_ _) | (with_reducible refine Kd.C_drewN ?_ _) | (with_reducible refine Kd.C_drew ?_))); (case side6 => exact (Kd.R_reads' HO_103002.out).2.1); rintro e w58 ⟨rfl, hb⟩; refine ⟨_, rfl, ?_⟩; have n0_ := Aside0.mk (Kd.R_below (by (with_reducible repeat (first | apply Kd.R_alloc | apply Kd.R_drewN | apply Kd.R_drew)); exact HO_103000.out) hb); have n1_ := Aside0.mk (Kd.R_below (by (with_reducible repeat (first | apply Kd.R_alloc | apply Kd.R_drewN | apply Kd.R_drew)); exact HO_103001.out) hb); have n2_ := Aside0.mk (Kd.R_below (by (with_reducible repeat (first | apply Kd.R_alloc | apply Kd.R_drewN | apply Kd.R_drew)); exact HO_103002.out) hb); have n3_ := Aside0.mk (blk_below (g := gb101) (o := .cells #[.slice none 0 0, .slice none 0 0, .slice none 0 0] 49 (0, 0)) (by (with_reducible repeat (first | refine blk_drewN ?_ _ | refine blk_drew ?_ | refine blk_alloc ?_ _)); exact BK101.out) hb); have n4_ := Aside0.mk (blk_below (g := gb102) (o := .cells #[.slice Ao55 x103000_1.length co55, .slice Ao56 x103001_1.length co56, .slice Ao57 x103002_1.length co57] 49 (0, 0)) (by (with_reducible repeat (first | refine blk_drewN ?_ _ | refine blk_drew ?_ | refine blk_alloc ?_ _)); exact BK102.out) hb); have n5_ := Aside0.mk (below_step (by repeat (first | (with_reducible first | exact HB.out | apply below_alloc | apply pw_below_drewN | apply below_drew1 | refine below_set ?_ GE101.out | refine below_set ?_ GE102.out) | exact HB.out)) hb); clear HO_103000; clear HO_103001; clear HO_103002; clear BK101; clear BK102; clear HB; have HO_103000 := n0_; have HO_103001 := n1_; have HO_103002 := n2_; have BK101 := n3_; have BK102 := n4_; have HB := n5_; clear n0_ n1_ n2_ n3_ n4_ n5_; (try clear hb); (try clear hb2); (try clear hk); (try clear hi); have hcz59_0 : w58.cell? ⟨gb102, 0, none⟩ = some (.slice Ao55 x103000_1.length co55) := (blk_cell BK102.out 0).trans rfl; have hcz59_1 : w58.cell? ⟨gb102, 1, none⟩ = some (.slice Ao56 x103001_1.length co56) := (blk_cell BK102.out 1).trans rfl; have hcz59_2 : w58.cell? ⟨gb102, 2, none⟩ = some (.slice Ao57 x103002_1.length co57) := (blk_cell BK102.out 2).trans rfl; have hfz59_0 := blk_frozen BK102.out 0; have hfz59_1 := blk_frozen BK102.out 1; have hfz59_2 := blk_frozen BK102.out 2) | (go_at_call 128; (with_reducible refine (impl_gaussText.calls _ _ x103000_1 _ _ x103001_1 _ _ x103002_1 t119 _ ?side1 ?side2 ?side3 ?side4 ?side5 ?side6 A51.out).mono ?_); (case side1 => repeat (first | exact (Kd.R_reads' HO_103000.out).2.2 | (with_reducible refine Kd.C_alloc ?_ _) | (with_reducible refine Kd.C_drewN ?_ _) | (with_reducible refine Kd.C_drew ?_))); (case side2 => exact (Kd.R_reads' HO_103000.out).2.1); (case side3 => repeat (first | exact (Kd.R_reads' HO_103001.out).2.2 | (with_reducible refine Kd.C_alloc ?_ _) | (with_reducible refine Kd.C_drewN ?_ _) | (with_reducible refine Kd.C_drew ?_))); (case side4 => exact (Kd.R_reads' HO_103001.out).2.1); (case side5 => repeat (first | exact (Kd.R_reads' HO_103002.out).2.2 | (with_reducible refine Kd.C_alloc ?_ _) | (with_reducible refine Kd.C_drewN ?_ _) | (with_reducible refine Kd.C_drew ?_))); (case side6 => exact (Kd.R_reads' HO_103002.out).2.1); rintro e w60 ⟨rfl, hb⟩; have n0_ := Aside0.mk (Kd.R_below (by (with_reducible repeat (first | apply Kd.R_alloc | apply Kd.R_drewN | apply Kd.R_drew)); exact HO_103000.out) hb); have n1_ := Aside0.mk (Kd.R_below (by (with_reducible repeat (first | apply Kd.R_alloc | apply Kd.R_drewN | apply Kd.R_drew)); exact HO_103001.out) hb); have n2_ := Aside0.mk (Kd.R_below (by (with_reducible repeat (first | apply Kd.R_alloc | apply Kd.R_drewN | apply Kd.R_drew)); exact HO_103002.out) hb); have n3_ := Aside0.mk (blk_below (g := gb101) (o := .cells #[.slice none 0 0, .slice none 0 0, .slice none 0 0] 49 (0, 0)) (by (with_reducible repeat (first | refine blk_drewN ?_ _ | refine blk_drew ?_ | refine blk_alloc ?_ _)); exact BK101.out) hb); have n4_ := Aside0.mk (blk_below (g := gb102) (o := .cells #[.slice Ao55 x103000_1.length co55, .slice Ao56 x103001_1.length co56, .slice Ao57 x103002_1.length co57] 49 (0, 0)) (by (with_reducible repeat (first | refine blk_drewN ?_ _ | refine blk_drew ?_ | refine blk_alloc ?_ _)); exact BK102.out) hb); have n5_ := Aside0.mk (below_step (by repeat (first | (with_reducible first | exact HB.out | apply below_alloc | apply pw_below_drewN | apply below_drew1 | refine below_set ?_ GE101.out | refine below_set ?_ GE102.out) | exact HB.out)) hb); clear HO_103000; clear HO_103001; clear HO_103002; clear BK101; clear BK102; clear HB; have HO_103000 := n0_; have HO_103001 := n1_; have HO_103002 := n2_; have BK101 := n3_; have BK102 := n4_; have HB := n5_; clear n0_ n1_ n2_ n3_ n4_ n5_; (try clear hb); (try clear hb2); (try clear hk); (try clear hi); have hcz61_0 : w60.cell? ⟨gb102, 0, none⟩ = some (.slice Ao55 x103000_1.length co55) := (blk_cell BK102.out 0).trans rfl; have hcz61_1 : w60.cell? ⟨gb102, 1, none⟩ = some (.slice Ao56 x103001_1.length co56) := (blk_cell BK102.out 1).trans rfl; have hcz61_2 : w60.cell? ⟨gb102, 2, none⟩ = some (.slice Ao57 x103002_1.length co57) := (blk_cell BK102.out 2).trans rfl; have hfz61_0 := blk_frozen BK102.out 0; have hfz61_1 := blk_frozen BK102.out 1; have hfz61_2 := blk_frozen BK102.out 2; have hcz62_0 : w60.cell? ⟨gb101, 0, none⟩ = some (.slice none 0 0) := (blk_cell BK101.out 0).trans rfl; have hcz62_1 : w60.cell? ⟨gb101, 1, none⟩ = some (.slice none 0 0) := (blk_cell BK101.out 1).trans rfl; have hcz62_2 : w60.cell? ⟨gb101, 2, none⟩ = some (.slice none 0 0) := (blk_cell BK101.out 2).trans rfl; have hfz62_0 := blk_frozen BK101.out 0; have hfz62_1 := blk_frozen BK101.out 1; have hfz62_2 := blk_frozen BK101.out 2))
                refine bodyPost_ret (results_ct rfl _ _ gb101 49 #[.slice Ao55 x103000_1.length co55, .slice Ao56 x103001_1.length co56, .slice Ao57 x103002_1.length co57] (0, 0) _ rfl (by (with_reducible repeat (first | refine blk_drewN ?_ _ | refine blk_drew ?_ | refine blk_alloc ?_ _)); refine blk_put (cs := #[.slice Ao55 x103000_1.length co55, .slice Ao56 x103001_1.length co56, .slice none 0 0]) ?_ 2 _ rfl; (with_reducible repeat (first | refine blk_drewN ?_ _ | refine blk_drew ?_ | refine blk_alloc ?_ _)); refine blk_put (cs := #[.slice Ao55 x103000_1.length co55, .slice none 0 0, .slice none 0 0]) ?_ 1 _ rfl; (with_reducible repeat (first | refine blk_drewN ?_ _ | refine blk_drew ?_ | refine blk_alloc ?_ _)); refine blk_put (cs := #[.slice none 0 0, .slice none 0 0, .slice none 0 0]) ?_ 0 _ rfl; (with_reducible repeat (first | refine blk_drewN ?_ _ | refine blk_drew ?_ | refine blk_alloc ?_ _)); exact BK101.out) Try.underlying49 rfl (by kernel_rfl)) rfl ?_
                exact ⟨_, _, _, by first | rfl | (simp [errW_none, errW_some] <;> rfl) | (simp [*, errW_none, errW_some] <;> rfl), by (with_reducible repeat (first | apply Kd.R_alloc | apply Kd.R_drewN | apply Kd.R_drew)); exact Kd.R_mono (Kd.R_far (p := ⟨gb101, 2, none⟩) (Kd.R_far (p := ⟨gb101, 1, none⟩) (Kd.R_far (p := ⟨gb101, 0, none⟩) (Kd.R_types HO_103000.out BK101.out (by decide)) (fun _ hk => hk.2) (.slice Ao55 x103000_1.length co55)) (fun _ hk => hk.2) (.slice Ao56 x103001_1.length co56)) (fun _ hk => hk.2) (.slice Ao57 x103002_1.length co57)) (fun _ hk => ⟨hk.1.1, hk.1.2⟩), by (with_reducible repeat (first | apply Kd.R_alloc | apply Kd.R_drewN | apply Kd.R_drew)); exact Kd.R_mono (Kd.R_far (p := ⟨gb101, 2, none⟩) (Kd.R_far (p := ⟨gb101, 1, none⟩) (Kd.R_far (p := ⟨gb101, 0, none⟩) (Kd.R_types HO_103001.out BK101.out (by decide)) (fun _ hk => hk.2) (.slice Ao55 x103000_1.length co55)) (fun _ hk => hk.2) (.slice Ao56 x103001_1.length co56)) (fun _ hk => hk.2) (.slice Ao57 x103002_1.length co57)) (fun _ hk => ⟨hk.1.1, hk.1.2⟩), by (with_reducible repeat (first | apply Kd.R_alloc | apply Kd.R_drewN | apply Kd.R_drew)); exact Kd.R_mono (Kd.R_far (p := ⟨gb101, 2, none⟩) (Kd.R_far (p := ⟨gb101, 1, none⟩) (Kd.R_far (p := ⟨gb101, 0, none⟩) (Kd.R_types HO_103002.out BK101.out (by decide)) (fun _ hk => hk.2) (.slice Ao55 x103000_1.length co55)) (fun _ hk => hk.2) (.slice Ao56 x103001_1.length co56)) (fun _ hk => hk.2) (.slice Ao57 x103002_1.length co57)) (fun _ hk => ⟨hk.1.1, hk.1.2⟩), by repeat (first | (with_reducible first | exact HB.out | apply below_alloc | apply pw_below_drewN | apply below_drew1 | refine below_set ?_ GE101.out | refine below_set ?_ GE102.out) | exact HB.out)⟩
              · rw [if_neg c52] at H
                have c52b0 : (t119.toList == a0.toList) = false := beq_eq_false_iff_ne.mpr c52
                have c52b1 : (t119.toList != a0.toList) = true := bne_iff_ne.mpr c52
                simp only [Option.some.injEq, Prod.mk.injEq] at H
                obtain ⟨rfl, rfl, rfl, rfl⟩ := H
                have hnb63 := NB102_101.out
                have hnc63 := NB101_102.out
                have hcz64_0 : wc.cell? ⟨gb102, 0, none⟩ = some (u103000) := (blk_cell BK102.out 0).trans rfl
                have hcz64_1 : wc.cell? ⟨gb102, 1, none⟩ = some (u103001) := (blk_cell BK102.out 1).trans rfl
                have hcz64_2 : wc.cell? ⟨gb102, 2, none⟩ = some (u103002) := (blk_cell BK102.out 2).trans rfl
                have hfz64_0 := blk_frozen BK102.out 0
                have hfz64_1 := blk_frozen BK102.out 1
                have hfz64_2 := blk_frozen BK102.out 2
                obtain ⟨Ao65, co65, eo65⟩ := Kd.R_slice HO_103000.out
                subst eo65
                obtain ⟨Ao66, co66, eo66⟩ := Kd.R_slice HO_103001.out
                subst eo66
                obtain ⟨Ao67, co67, eo67⟩ := Kd.R_slice HO_103002.out
                subst eo67
                go_wp2_with (first | ((with_reducible refine gate_callee (f := 61) rfl ?_); refine goesL_ (some 61) rfl rfl Try.func61 (by kernel_rfl) rfl #[.agg #[.slice Ao65 x103000_1.length co65, .slice Ao66 x103001_1.length co66, .slice Ao67 x103002_1.length co67]] rfl (by (try simp only [List.map_toArray, List.map_cons, List.map_nil]); first | done | rfl | (simp only [List.length_drop, List.length_take]; rfl)) ?_; (with_reducible refine (impl_IsGauss.calls kj5 _ _ x103000_1 _ _ x103001_1 _ _ x103002_1 true _ ?side1 ?side2 ?side3 ?side4 ?side5 ?side6 A49.out).mono ?_); (case side1 => repeat (first | exact (Kd.R_reads' HO_103000.out).2.2 | (with_reducible refine Kd.C_alloc ?_ _) | (with_reducible refine Kd.C_drewN ?_ _) | (with_reducible refine Kd.C_drew ?_))); (case side2 => exact (Kd.R_reads' HO_103000.out).2.1); (case side3 => repeat (first | exact (Kd.R_reads' HO_103001.out).2.2 | (with_reducible refine Kd.C_alloc ?_ _) | (with_reducible refine Kd.C_drewN ?_ _) | (with_reducible refine Kd.C_drew ?_))); (case side4 => exact (Kd.R_reads' HO_103001.out).2.1); (case side5 => repeat (first | exact (Kd.R_reads' HO_103002.out).2.2 | (with_reducible refine Kd.C_alloc ?_ _) | (with_reducible refine Kd.C_drewN ?_ _) | (with_reducible refine Kd.C_drew ?_))); (case side6 => exact (Kd.R_reads' HO_103002.out).2.1); rintro e w68 ⟨rfl, hb⟩; refine ⟨_, rfl, ?_⟩; have n0_ := Aside0.mk (Kd.R_below (by (with_reducible repeat (first | apply Kd.R_alloc | apply Kd.R_drewN | apply Kd.R_drew)); exact HO_103000.out) hb); have n1_ := Aside0.mk (Kd.R_below (by (with_reducible repeat (first | apply Kd.R_alloc | apply Kd.R_drewN | apply Kd.R_drew)); exact HO_103001.out) hb); have n2_ := Aside0.mk (Kd.R_below (by (with_reducible repeat (first | apply Kd.R_alloc | apply Kd.R_drewN | apply Kd.R_drew)); exact HO_103002.out) hb); have n3_ := Aside0.mk (blk_below (g := gb101) (o := .cells #[.slice none 0 0, .slice none 0 0, .slice none 0 0] 49 (0, 0)) (by (with_reducible repeat (first | refine blk_drewN ?_ _ | refine blk_drew ?_ | refine blk_alloc ?_ _)); exact BK101.out) hb); have n4_ := Aside0.mk (blk_below (g := gb102) (o := .cells #[.slice Ao65 x103000_1.length co65, .slice Ao66 x103001_1.length co66, .slice Ao67 x103002_1.length co67] 49 (0, 0)) (by (with_reducible repeat (first | refine blk_drewN ?_ _ | refine blk_drew ?_ | refine blk_alloc ?_ _)); exact BK102.out) hb); have n5_ := Aside0.mk (below_step (by repeat (first | (with_reducible first | exact HB.out | apply below_alloc | apply pw_below_drewN | apply below_drew1 | refine below_set ?_ GE101.out | refine below_set ?_ GE102.out) | exact HB.out)) hb); clear HO_103000; clear HO_103001; clear HO_103002; clear BK101; clear BK102; clear HB; have HO_103000 := n0_; have HO_103001 := n1_; have HO_103002 := n2_; have BK101 := n3_; have BK102 := n4_; have HB := n5_; clear n0_ n1_ n2_ n3_ n4_ n5_; (try clear hb); (try clear hb2); (try clear hk); (try clear hi); have hcz69_0 : w68.cell? ⟨gb102, 0, none⟩ = some (.slice Ao65 x103000_1.length co65) := (blk_cell BK102.out 0).trans rfl; have hcz69_1 : w68.cell? ⟨gb102, 1, none⟩ = some (.slice Ao66 x103001_1.length co66) := (blk_cell BK102.out 1).trans rfl; have hcz69_2 : w68.cell? ⟨gb102, 2, none⟩ = some (.slice Ao67 x103002_1.length co67) := (blk_cell BK102.out 2).trans rfl; have hfz69_0 := blk_frozen BK102.out 0; have hfz69_1 := blk_frozen BK102.out 1; have hfz69_2 := blk_frozen BK102.out 2) | (go_at_call 128; (with_reducible refine (impl_gaussText.calls _ _ x103000_1 _ _ x103001_1 _ _ x103002_1 t119 _ ?side1 ?side2 ?side3 ?side4 ?side5 ?side6 A51.out).mono ?_); (case side1 => repeat (first | exact (Kd.R_reads' HO_103000.out).2.2 | (with_reducible refine Kd.C_alloc ?_ _) | (with_reducible refine Kd.C_drewN ?_ _) | (with_reducible refine Kd.C_drew ?_))); (case side2 => exact (Kd.R_reads' HO_103000.out).2.1); (case side3 => repeat (first | exact (Kd.R_reads' HO_103001.out).2.2 | (with_reducible refine Kd.C_alloc ?_ _) | (with_reducible refine Kd.C_drewN ?_ _) | (with_reducible refine Kd.C_drew ?_))); (case side4 => exact (Kd.R_reads' HO_103001.out).2.1); (case side5 => repeat (first | exact (Kd.R_reads' HO_103002.out).2.2 | (with_reducible refine Kd.C_alloc ?_ _) | (with_reducible refine Kd.C_drewN ?_ _) | (with_reducible refine Kd.C_drew ?_))); (case side6 => exact (Kd.R_reads' HO_103002.out).2.1); rintro e w70 ⟨rfl, hb⟩; have n0_ := Aside0.mk (Kd.R_below (by (with_reducible repeat (first | apply Kd.R_alloc | apply Kd.R_drewN | apply Kd.R_drew)); exact HO_103000.out) hb); have n1_ := Aside0.mk (Kd.R_below (by (with_reducible repeat (first | apply Kd.R_alloc | apply Kd.R_drewN | apply Kd.R_drew)); exact HO_103001.out) hb); have n2_ := Aside0.mk (Kd.R_below (by (with_reducible repeat (first | apply Kd.R_alloc | apply Kd.R_drewN | apply Kd.R_drew)); exact HO_103002.out) hb); have n3_ := Aside0.mk (blk_below (g := gb101) (o := .cells #[.slice none 0 0, .slice none 0 0, .slice none 0 0] 49 (0, 0)) (by (with_reducible repeat (first | refine blk_drewN ?_ _ | refine blk_drew ?_ | refine blk_alloc ?_ _)); exact BK101.out) hb); have n4_ := Aside0.mk (blk_below (g := gb102) (o := .cells #[.slice Ao65 x103000_1.length co65, .slice Ao66 x103001_1.length co66, .slice Ao67 x103002_1.length co67] 49 (0, 0)) (by (with_reducible repeat (first | refine blk_drewN ?_ _ | refine blk_drew ?_ | refine blk_alloc ?_ _)); exact BK102.out) hb); have n5_ := Aside0.mk (below_step (by repeat (first | (with_reducible first | exact HB.out | apply below_alloc | apply pw_below_drewN | apply below_drew1 | refine below_set ?_ GE101.out | refine below_set ?_ GE102.out) | exact HB.out)) hb); clear HO_103000; clear HO_103001; clear HO_103002; clear BK101; clear BK102; clear HB; have HO_103000 := n0_; have HO_103001 := n1_; have HO_103002 := n2_; have BK101 := n3_; have BK102 := n4_; have HB := n5_; clear n0_ n1_ n2_ n3_ n4_ n5_; (try clear hb); (try clear hb2); (try clear hk); (try clear hi); have hcz71_0 : w70.cell? ⟨gb101, 0, none⟩ = some (.slice none 0 0) := (blk_cell BK101.out 0).trans rfl; have hcz71_1 : w70.cell? ⟨gb101, 1, none⟩ = some (.slice none 0 0) := (blk_cell BK101.out 1).trans rfl; have hcz71_2 : w70.cell? ⟨gb101, 2, none⟩ = some (.slice none 0 0) := (blk_cell BK101.out 2).trans rfl; have hfz71_0 := blk_frozen BK101.out 0; have hfz71_1 := blk_frozen BK101.out 1; have hfz71_2 := blk_frozen BK101.out 2))
                refine bodyPost_ret (results_ct rfl _ _ gb101 49 #[.slice none 0 0, .slice none 0 0, .slice none 0 0] (0, 0) _ rfl (by (with_reducible repeat (first | refine blk_drewN ?_ _ | refine blk_drew ?_ | refine blk_alloc ?_ _)); refine blk_put (cs := #[.slice none 0 0, .slice none 0 0, .slice none 0 0]) ?_ 2 _ rfl; (with_reducible repeat (first | refine blk_drewN ?_ _ | refine blk_drew ?_ | refine blk_alloc ?_ _)); refine blk_put (cs := #[.slice none 0 0, .slice none 0 0, .slice none 0 0]) ?_ 1 _ rfl; (with_reducible repeat (first | refine blk_drewN ?_ _ | refine blk_drew ?_ | refine blk_alloc ?_ _)); refine blk_put (cs := #[.slice none 0 0, .slice none 0 0, .slice none 0 0]) ?_ 0 _ rfl; (with_reducible repeat (first | refine blk_drewN ?_ _ | refine blk_drew ?_ | refine blk_alloc ?_ _)); exact BK101.out) Try.underlying49 rfl (by kernel_rfl)) rfl ?_
                exact ⟨_, _, _, by first | rfl | (simp [errW_none, errW_some] <;> rfl) | (simp [*, errW_none, errW_some] <;> rfl), by first | exact Kd.R_nil _ _ _ _ _ | exact Kd.N_nil _ _ _ _ _ | exact Kd.V_nil _ _ _ _ _ | exact Kd.Q_nil _ _ _ _ _ | exact Kd.S_nil _ _ _ _ _, by first | exact Kd.R_nil _ _ _ _ _ | exact Kd.N_nil _ _ _ _ _ | exact Kd.V_nil _ _ _ _ _ | exact Kd.Q_nil _ _ _ _ _ | exact Kd.S_nil _ _ _ _ _, by first | exact Kd.R_nil _ _ _ _ _ | exact Kd.N_nil _ _ _ _ _ | exact Kd.V_nil _ _ _ _ _ | exact Kd.Q_nil _ _ _ _ _ | exact Kd.S_nil _ _ _ _ _, by repeat (first | (with_reducible first | exact HB.out | apply below_alloc | apply pw_below_drewN | apply below_drew1 | refine below_set ?_ GE101.out | refine below_set ?_ GE102.out) | exact HB.out)⟩
            · replace c50 := Bool.eq_false_iff.mpr c50
              subst c50
              have H1 : (some (([] : List Int), ([] : List Int), ([] : List Int), 6)) = some (r1, r2, r3, r4) := by rw [if_neg (show ¬ (false = true) by decide)] at H; exact H
              clear H
              have H := H1
              clear H1
              simp only [Option.some.injEq, Prod.mk.injEq] at H
              obtain ⟨rfl, rfl, rfl, rfl⟩ := H
              have hnb72 := NB102_101.out
              have hnc72 := NB101_102.out
              have hcz73_0 : wc.cell? ⟨gb102, 0, none⟩ = some (u103000) := (blk_cell BK102.out 0).trans rfl
              have hcz73_1 : wc.cell? ⟨gb102, 1, none⟩ = some (u103001) := (blk_cell BK102.out 1).trans rfl
              have hcz73_2 : wc.cell? ⟨gb102, 2, none⟩ = some (u103002) := (blk_cell BK102.out 2).trans rfl
              have hfz73_0 := blk_frozen BK102.out 0
              have hfz73_1 := blk_frozen BK102.out 1
              have hfz73_2 := blk_frozen BK102.out 2
              obtain ⟨Ao74, co74, eo74⟩ := Kd.R_slice HO_103000.out
              subst eo74
              obtain ⟨Ao75, co75, eo75⟩ := Kd.R_slice HO_103001.out
              subst eo75
              obtain ⟨Ao76, co76, eo76⟩ := Kd.R_slice HO_103002.out
              subst eo76
              go_wp2_with (first | ((with_reducible refine gate_callee (f := 61) rfl ?_); refine goesL_ (some 61) rfl rfl Try.func61 (by kernel_rfl) rfl #[.agg #[.slice Ao74 x103000_1.length co74, .slice Ao75 x103001_1.length co75, .slice Ao76 x103002_1.length co76]] rfl (by (try simp only [List.map_toArray, List.map_cons, List.map_nil]); first | done | rfl | (simp only [List.length_drop, List.length_take]; rfl)) ?_; (with_reducible refine (impl_IsGauss.calls kj5 _ _ x103000_1 _ _ x103001_1 _ _ x103002_1 false _ ?side1 ?side2 ?side3 ?side4 ?side5 ?side6 A49.out).mono ?_); (case side1 => repeat (first | exact (Kd.R_reads' HO_103000.out).2.2 | (with_reducible refine Kd.C_alloc ?_ _) | (with_reducible refine Kd.C_drewN ?_ _) | (with_reducible refine Kd.C_drew ?_))); (case side2 => exact (Kd.R_reads' HO_103000.out).2.1); (case side3 => repeat (first | exact (Kd.R_reads' HO_103001.out).2.2 | (with_reducible refine Kd.C_alloc ?_ _) | (with_reducible refine Kd.C_drewN ?_ _) | (with_reducible refine Kd.C_drew ?_))); (case side4 => exact (Kd.R_reads' HO_103001.out).2.1); (case side5 => repeat (first | exact (Kd.R_reads' HO_103002.out).2.2 | (with_reducible refine Kd.C_alloc ?_ _) | (with_reducible refine Kd.C_drewN ?_ _) | (with_reducible refine Kd.C_drew ?_))); (case side6 => exact (Kd.R_reads' HO_103002.out).2.1); rintro e w77 ⟨rfl, hb⟩; refine ⟨_, rfl, ?_⟩; have n0_ := Aside0.mk (Kd.R_below (by (with_reducible repeat (first | apply Kd.R_alloc | apply Kd.R_drewN | apply Kd.R_drew)); exact HO_103000.out) hb); have n1_ := Aside0.mk (Kd.R_below (by (with_reducible repeat (first | apply Kd.R_alloc | apply Kd.R_drewN | apply Kd.R_drew)); exact HO_103001.out) hb); have n2_ := Aside0.mk (Kd.R_below (by (with_reducible repeat (first | apply Kd.R_alloc | apply Kd.R_drewN | apply Kd.R_drew)); exact HO_103002.out) hb); have n3_ := Aside0.mk (blk_below (g := gb101) (o := .cells #[.slice none 0 0, .slice none 0 0, .slice none 0 0] 49 (0, 0)) (by (with_reducible repeat (first | refine blk_drewN ?_ _ | refine blk_drew ?_ | refine blk_alloc ?_ _)); exact BK101.out) hb); have n4_ := Aside0.mk (blk_below (g := gb102) (o := .cells #[.slice Ao74 x103000_1.length co74, .slice Ao75 x103001_1.length co75, .slice Ao76 x103002_1.length co76] 49 (0, 0)) (by (with_reducible repeat (first | refine blk_drewN ?_ _ | refine blk_drew ?_ | refine blk_alloc ?_ _)); exact BK102.out) hb); have n5_ := Aside0.mk (below_step (by repeat (first | (with_reducible first | exact HB.out | apply below_alloc | apply pw_below_drewN | apply below_drew1 | refine below_set ?_ GE101.out | refine below_set ?_ GE102.out) | exact HB.out)) hb); clear HO_103000; clear HO_103001; clear HO_103002; clear BK101; clear BK102; clear HB; have HO_103000 := n0_; have HO_103001 := n1_; have HO_103002 := n2_; have BK101 := n3_; have BK102 := n4_; have HB := n5_; clear n0_ n1_ n2_ n3_ n4_ n5_; (try clear hb); (try clear hb2); (try clear hk); (try clear hi); have hcz78_0 : w77.cell? ⟨gb101, 0, none⟩ = some (.slice none 0 0) := (blk_cell BK101.out 0).trans rfl; have hcz78_1 : w77.cell? ⟨gb101, 1, none⟩ = some (.slice none 0 0) := (blk_cell BK101.out 1).trans rfl; have hcz78_2 : w77.cell? ⟨gb101, 2, none⟩ = some (.slice none 0 0) := (blk_cell BK101.out 2).trans rfl; have hfz78_0 := blk_frozen BK101.out 0; have hfz78_1 := blk_frozen BK101.out 1; have hfz78_2 := blk_frozen BK101.out 2))
              refine bodyPost_ret (results_ct rfl _ _ gb101 49 #[.slice none 0 0, .slice none 0 0, .slice none 0 0] (0, 0) _ rfl (by (with_reducible repeat (first | refine blk_drewN ?_ _ | refine blk_drew ?_ | refine blk_alloc ?_ _)); refine blk_put (cs := #[.slice none 0 0, .slice none 0 0, .slice none 0 0]) ?_ 2 _ rfl; (with_reducible repeat (first | refine blk_drewN ?_ _ | refine blk_drew ?_ | refine blk_alloc ?_ _)); refine blk_put (cs := #[.slice none 0 0, .slice none 0 0, .slice none 0 0]) ?_ 1 _ rfl; (with_reducible repeat (first | refine blk_drewN ?_ _ | refine blk_drew ?_ | refine blk_alloc ?_ _)); refine blk_put (cs := #[.slice none 0 0, .slice none 0 0, .slice none 0 0]) ?_ 0 _ rfl; (with_reducible repeat (first | refine blk_drewN ?_ _ | refine blk_drew ?_ | refine blk_alloc ?_ _)); exact BK101.out) Try.underlying49 rfl (by kernel_rfl)) rfl ?_
              exact ⟨_, _, _, by first | rfl | (simp [errW_none, errW_some] <;> rfl) | (simp [*, errW_none, errW_some] <;> rfl), by first | exact Kd.R_nil _ _ _ _ _ | exact Kd.N_nil _ _ _ _ _ | exact Kd.V_nil _ _ _ _ _ | exact Kd.Q_nil _ _ _ _ _ | exact Kd.S_nil _ _ _ _ _, by first | exact Kd.R_nil _ _ _ _ _ | exact Kd.N_nil _ _ _ _ _ | exact Kd.V_nil _ _ _ _ _ | exact Kd.Q_nil _ _ _ _ _ | exact Kd.S_nil _ _ _ _ _, by first | exact Kd.R_nil _ _ _ _ _ | exact Kd.N_nil _ _ _ _ _ | exact Kd.V_nil _ _ _ _ _ | exact Kd.Q_nil _ _ _ _ _ | exact Kd.S_nil _ _ _ _ _, by repeat (first | (with_reducible first | exact HB.out | apply below_alloc | apply pw_below_drewN | apply below_drew1 | refine below_set ?_ GE101.out | refine below_set ?_ GE102.out) | exact HB.out)⟩

/-! ### laws_FnExactParseGauss: function 19, by hand -/
def laws_FnExactParseGauss.Told (t0 : ByteArray) (k : Nat) (c m : Int) (g0 : List Int) (g1 : List Int) (g2 : List Int) (p0 : List Int) (p1 : List Int) (p2 : List Int) : Prop :=
  spec_ParseGauss.f k t0 = some (g0, g1, g2, c) ∧ impl_ParseGauss.f k t0 = some (g0, g1, g2, c) ∧ laws_eqGauss.f k g0 g1 g2 g0 g1 g2 = some true ∧ laws_markGauss.f k g0 g1 g2 1 = some (m, p0, p1, p2) ∧ laws_heldGauss.f k p0 p1 p2 1 = some m ∧ 0 ≤ m
set_option maxHeartbeats 16000000 in
set_option maxRecDepth 100000 in
theorem laws_FnExactParseGauss.one (t0 : ByteArray) (w : World) (hz0 : t0.size ≤ 1048576) (k : Nat) (c m : Int) (g0 : List Int) (g1 : List Int) (g2 : List Int) (p0 : List Int) (p1 : List Int) (p2 : List Int) (h : laws_FnExactParseGauss.Told t0 k c m g0 g1 g2 p0 p1 p2) :
    Calls Try.prog 19 #[.string t0] w fun e w' => e = .returned (.bool true) ∧ Below w.heap.size w w' := by
  have huB := Try.underlying49
  obtain ⟨h_FS, h_FI, h_FE, h_FM, h_FH, hb_0⟩ := h
  have FS := Aside0.mk h_FS
  clear h_FS
  have FI := Aside0.mk h_FI
  clear h_FI
  have FE := Aside0.mk h_FE
  clear h_FE
  have FM := Aside0.mk h_FM
  clear h_FM
  have FH := Aside0.mk h_FH
  clear h_FH
  have d3 : decide (m < 0) = false := decide_eq_false (by omega)
  have da0 : decide (1048576 < t0.size) = false := decide_eq_false (by omega)
  have db0 : decide ((1048576 : Int) < (t0.size : Int)) = false := decide_eq_false (by omega)
  clear hb_0
  clear hz0
  go_enter Try.func19, Try.ntmps19
  have BQ := Aside0.mk (Below.refl w.heap.size w)
  go_wp2_with fail
  refine (spec_ParseGauss.calls k t0 g0 g1 g2 c _  FS.out).mono ?_
  rintro e w1 ⟨u0, u1, u2, rfl, o0, o1, o2, hb⟩
  have Rs_0 := Aside0.mk o0
  have Rs_1 := Aside0.mk o1
  have Rs_2 := Aside0.mk o2
  have Bs := Aside0.mk hb
  clear o0 o1 o2 hb
  obtain ⟨As_0, cs_0, rfl⟩ := Kd.R_slice Rs_0.out
  obtain ⟨As_1, cs_1, rfl⟩ := Kd.R_slice Rs_1.out
  obtain ⟨As_2, cs_2, rfl⟩ := Kd.R_slice Rs_2.out
  have n_ := Aside0.mk (below_step BQ.out Bs.out)
  clear BQ
  have BQ := n_
  clear n_
  have BW0 := BQ
  clear BQ
  have K0_0 := Aside0.mk (Kd.R_reads' Rs_0.out).2.2
  have LE0 := Aside0.mk (Kd.R_reads' Rs_0.out).2.1
  have K0_1 := Aside0.mk (Kd.R_reads' Rs_1.out).2.2
  have LE1 := Aside0.mk (Kd.R_reads' Rs_1.out).2.1
  have K0_2 := Aside0.mk (Kd.R_reads' Rs_2.out).2.2
  have LE2 := Aside0.mk (Kd.R_reads' Rs_2.out).2.1
  clear Rs_0
  clear Rs_1
  clear Rs_2
  have zWa0_0 : (w1.alloc (.cells #[.slice As_0 g0.length cs_0, .slice As_1 g1.length cs_1, .slice As_2 g2.length cs_2] 49)).cell? ⟨w1.heap.size, 0, none⟩ = some (.slice As_0 g0.length cs_0) := (blk_cell (blk_new _ _) 0).trans rfl
  have zWa0_1 : (w1.alloc (.cells #[.slice As_0 g0.length cs_0, .slice As_1 g1.length cs_1, .slice As_2 g2.length cs_2] 49)).cell? ⟨w1.heap.size, 1, none⟩ = some (.slice As_1 g1.length cs_1) := (blk_cell (blk_new _ _) 1).trans rfl
  have zWa0_2 : (w1.alloc (.cells #[.slice As_0 g0.length cs_0, .slice As_1 g1.length cs_1, .slice As_2 g2.length cs_2] 49)).cell? ⟨w1.heap.size, 2, none⟩ = some (.slice As_2 g2.length cs_2) := (blk_cell (blk_new _ _) 2).trans rfl
  go_wp2_with fail
  obtain ⟨wr, hwr_⟩ : ∃ x_ : World, w1.alloc (.cells #[.slice As_0 g0.length cs_0, .slice As_1 g1.length cs_1, .slice As_2 g2.length cs_2] 49) = x_ := ⟨_, rfl⟩
  rw [hwr_]
  have Bwr : Aside0 (Below w1.heap.size w1 wr) := ⟨by rw [← hwr_]; exact below_alloc (Below.refl _ _) _⟩
  have BKW : Aside0 (wr.heap[w1.heap.size]? = some (.cells #[.slice As_0 g0.length cs_0, .slice As_1 g1.length cs_1, .slice As_2 g2.length cs_2] 49 (0, 0))) := ⟨by rw [← hwr_]; exact blk_new _ _⟩
  clear hwr_
  have sWwr := blk_lt BKW.out
  have BW := Aside0.mk (below_step BW0.out Bwr.out)
  have K0 := Aside0.mk (Kd.C_below K0_0.out Bwr.out)
  clear K0_0
  have K1 := Aside0.mk (Kd.C_below K0_1.out Bwr.out)
  clear K0_1
  have K2 := Aside0.mk (Kd.C_below K0_2.out Bwr.out)
  clear K0_2
  have BR := Aside0.mk (Below.refl wr.heap.size wr)
  have zx := BR.out.size
  refine (impl_ParseGauss.calls k t0 g0 g1 g2 c _  FI.out).mono ?_
  rintro e w2 ⟨u0, u1, u2, rfl, o0, o1, o2, hb⟩
  clear zWa0_0 zWa0_1 zWa0_2
  have Rg_0 := Aside0.mk o0
  have Rg_1 := Aside0.mk o1
  have Rg_2 := Aside0.mk o2
  have Bg := Aside0.mk hb
  clear o0 o1 o2 hb
  obtain ⟨Ag_0, cg_0, rfl⟩ := Kd.R_slice Rg_0.out
  obtain ⟨Ag_1, cg_1, rfl⟩ := Kd.R_slice Rg_1.out
  obtain ⟨Ag_2, cg_2, rfl⟩ := Kd.R_slice Rg_2.out
  have n_ := Aside0.mk (below_step BR.out Bg.out)
  clear BR
  have BR := n_
  clear n_
  have n_ := Aside0.mk (blk_below BKW.out Bg.out)
  clear BKW
  have BKW := n_
  clear n_
  have n_ := Aside0.mk (Kd.R_mono (ok' := fun k_ => (wr.heap.size ≤ k_ ∧ k_ < w2.heap.size) ∧ (some k_ ≠ (.slice Ag_1 g1.length cg_1 : Value).ownBlock ∧ some k_ ≠ (.slice Ag_2 g2.length cg_2 : Value).ownBlock)) (Kd.R_bound Rg_0.out) (fun k_ h_ => ⟨⟨h_.2.1, h_.2.2.1⟩, h_.1⟩))
  clear Rg_0
  have Rg_0 := n_
  clear n_
  have n_ := Aside0.mk (Kd.R_mono (ok' := fun k_ => (wr.heap.size ≤ k_ ∧ k_ < w2.heap.size) ∧ (some k_ ≠ (.slice Ag_0 g0.length cg_0 : Value).ownBlock ∧ some k_ ≠ (.slice Ag_2 g2.length cg_2 : Value).ownBlock)) (Kd.R_bound Rg_1.out) (fun k_ h_ => ⟨⟨h_.2.1, h_.2.2.1⟩, h_.1⟩))
  clear Rg_1
  have Rg_1 := n_
  clear n_
  have n_ := Aside0.mk (Kd.R_mono (ok' := fun k_ => (wr.heap.size ≤ k_ ∧ k_ < w2.heap.size) ∧ (some k_ ≠ (.slice Ag_0 g0.length cg_0 : Value).ownBlock ∧ some k_ ≠ (.slice Ag_1 g1.length cg_1 : Value).ownBlock)) (Kd.R_bound Rg_2.out) (fun k_ h_ => ⟨⟨h_.2.1, h_.2.2.1⟩, h_.1⟩))
  clear Rg_2
  have Rg_2 := n_
  clear n_
  have zg := Bg.out.size
  have zW_0 : w2.cell? ⟨w1.heap.size, 0, none⟩ = some (.slice As_0 g0.length cs_0) := (blk_cell (BKW.out) 0).trans rfl
  have zW_1 : w2.cell? ⟨w1.heap.size, 1, none⟩ = some (.slice As_1 g1.length cs_1) := (blk_cell (BKW.out) 1).trans rfl
  have zW_2 : w2.cell? ⟨w1.heap.size, 2, none⟩ = some (.slice As_2 g2.length cs_2) := (blk_cell (BKW.out) 2).trans rfl
  have zWa0_0 : (w2.alloc (.cells #[.slice Ag_0 g0.length cg_0, .slice Ag_1 g1.length cg_1, .slice Ag_2 g2.length cg_2] 49)).cell? ⟨w1.heap.size, 0, none⟩ = some (.slice As_0 g0.length cs_0) := (blk_cell (blk_alloc BKW.out _) 0).trans rfl
  have zWa0_1 : (w2.alloc (.cells #[.slice Ag_0 g0.length cg_0, .slice Ag_1 g1.length cg_1, .slice Ag_2 g2.length cg_2] 49)).cell? ⟨w1.heap.size, 1, none⟩ = some (.slice As_1 g1.length cs_1) := (blk_cell (blk_alloc BKW.out _) 1).trans rfl
  have zWa0_2 : (w2.alloc (.cells #[.slice Ag_0 g0.length cg_0, .slice Ag_1 g1.length cg_1, .slice Ag_2 g2.length cg_2] 49)).cell? ⟨w1.heap.size, 2, none⟩ = some (.slice As_2 g2.length cs_2) := (blk_cell (blk_alloc BKW.out _) 2).trans rfl
  have zGa0_0 : (w2.alloc (.cells #[.slice Ag_0 g0.length cg_0, .slice Ag_1 g1.length cg_1, .slice Ag_2 g2.length cg_2] 49)).cell? ⟨w2.heap.size, 0, none⟩ = some (.slice Ag_0 g0.length cg_0) := (blk_cell (blk_new _ _) 0).trans rfl
  have zGa0_1 : (w2.alloc (.cells #[.slice Ag_0 g0.length cg_0, .slice Ag_1 g1.length cg_1, .slice Ag_2 g2.length cg_2] 49)).cell? ⟨w2.heap.size, 1, none⟩ = some (.slice Ag_1 g1.length cg_1) := (blk_cell (blk_new _ _) 1).trans rfl
  have zGa0_2 : (w2.alloc (.cells #[.slice Ag_0 g0.length cg_0, .slice Ag_1 g1.length cg_1, .slice Ag_2 g2.length cg_2] 49)).cell? ⟨w2.heap.size, 2, none⟩ = some (.slice Ag_2 g2.length cg_2) := (blk_cell (blk_new _ _) 2).trans rfl
  go_wp2_with fail
  obtain ⟨wg, hwg_⟩ : ∃ x_ : World, w2.alloc (.cells #[.slice Ag_0 g0.length cg_0, .slice Ag_1 g1.length cg_1, .slice Ag_2 g2.length cg_2] 49) = x_ := ⟨_, rfl⟩
  rw [hwg_]
  have Bwg : Aside0 (Below w2.heap.size w2 wg) := ⟨by rw [← hwg_]; exact below_alloc (Below.refl _ _) _⟩
  have BKG : Aside0 (wg.heap[w2.heap.size]? = some (.cells #[.slice Ag_0 g0.length cg_0, .slice Ag_1 g1.length cg_1, .slice Ag_2 g2.length cg_2] 49 (0, 0))) := ⟨by rw [← hwg_]; exact blk_new _ _⟩
  clear hwg_
  have n_ := Aside0.mk (blk_below BKW.out Bwg.out)
  clear BKW
  have BKW := n_
  clear n_
  have sWwg := blk_lt BKW.out
  have sGwg := blk_lt BKG.out
  have n_ := Aside0.mk (below_step BR.out Bwg.out)
  clear BR
  have BR := n_
  clear n_
  have n_ := Aside0.mk (Kd.R_below Rg_0.out Bwg.out)
  clear Rg_0
  have Rg_0 := n_
  clear n_
  have n_ := Aside0.mk (Kd.R_below Rg_1.out Bwg.out)
  clear Rg_1
  have Rg_1 := n_
  clear n_
  have n_ := Aside0.mk (Kd.R_below Rg_2.out Bwg.out)
  clear Rg_2
  have Rg_2 := n_
  clear n_
  refine (laws_eqGauss.calls k _ _ g0 _ _ g1 _ _ g2 _ _ g0 _ _ g1 _ _ g2 true _ (Kd.R_reads' Rg_0.out).2.2 (Kd.R_reads' Rg_0.out).2.1 (Kd.R_reads' Rg_1.out).2.2 (Kd.R_reads' Rg_1.out).2.1 (Kd.R_reads' Rg_2.out).2.2 (Kd.R_reads' Rg_2.out).2.1 (Kd.C_below K0.out BR.out) LE0.out (Kd.C_below K1.out BR.out) LE1.out (Kd.C_below K2.out BR.out) LE2.out FE.out).mono ?_
  rintro e w3 ⟨rfl, hb⟩
  clear zW_0 zW_1 zW_2 zWa0_0 zWa0_1 zWa0_2 zGa0_0 zGa0_1 zGa0_2
  have Be3 := Aside0.mk (hb)
  clear hb
  have n_ := Aside0.mk (below_step BR.out Be3.out)
  clear BR
  have BR := n_
  clear n_
  have n_ := Aside0.mk (Kd.R_below Rg_0.out Be3.out)
  clear Rg_0
  have Rg_0 := n_
  clear n_
  have n_ := Aside0.mk (Kd.R_below Rg_1.out Be3.out)
  clear Rg_1
  have Rg_1 := n_
  clear n_
  have n_ := Aside0.mk (Kd.R_below Rg_2.out Be3.out)
  clear Rg_2
  have Rg_2 := n_
  clear n_
  have n_ := Aside0.mk (blk_below BKW.out Be3.out)
  clear BKW
  have BKW := n_
  clear n_
  have n_ := Aside0.mk (blk_below BKG.out Be3.out)
  clear BKG
  have BKG := n_
  clear n_
  have n_ := Aside0.mk (Kd.R_lower Rg_0.out zx)
  clear Rg_0
  have Rg_0 := n_
  clear n_
  have n_ := Aside0.mk (Kd.R_lower Rg_1.out zx)
  clear Rg_1
  have Rg_1 := n_
  clear n_
  have n_ := Aside0.mk (Kd.R_lower Rg_2.out zx)
  clear Rg_2
  have Rg_2 := n_
  clear n_
  have zW_0 : w3.cell? ⟨w1.heap.size, 0, none⟩ = some (.slice As_0 g0.length cs_0) := (blk_cell (BKW.out) 0).trans rfl
  have zW_1 : w3.cell? ⟨w1.heap.size, 1, none⟩ = some (.slice As_1 g1.length cs_1) := (blk_cell (BKW.out) 1).trans rfl
  have zW_2 : w3.cell? ⟨w1.heap.size, 2, none⟩ = some (.slice As_2 g2.length cs_2) := (blk_cell (BKW.out) 2).trans rfl
  have zG_0 : w3.cell? ⟨w2.heap.size, 0, none⟩ = some (.slice Ag_0 g0.length cg_0) := (blk_cell (BKG.out) 0).trans rfl
  have zG_1 : w3.cell? ⟨w2.heap.size, 1, none⟩ = some (.slice Ag_1 g1.length cg_1) := (blk_cell (BKG.out) 1).trans rfl
  have zG_2 : w3.cell? ⟨w2.heap.size, 2, none⟩ = some (.slice Ag_2 g2.length cg_2) := (blk_cell (BKG.out) 2).trans rfl
  go_wp2_with fail
  refine (laws_markGauss.calls k _ _ g0 _ _ g1 _ _ g2 1 m p0 p1 p2 wr _ BR.out (Kd.R_tight rfl Rg_0.out) (fun k_ h_ h2_ => (Rg_0.out.1 k_ h_.symm).2.1 h2_) (fun k_ h_ h2_ => (Rg_0.out.1 k_ h_.symm).2.2 h2_) (Kd.R_tight rfl Rg_1.out) (fun k_ h_ h2_ => (Rg_1.out.1 k_ h_.symm).2.1 h2_) (fun k_ h_ h2_ => (Rg_1.out.1 k_ h_.symm).2.2 h2_) (Kd.R_tight rfl Rg_2.out) (fun k_ h_ h2_ => (Rg_2.out.1 k_ h_.symm).2.1 h2_) (fun k_ h_ h2_ => (Rg_2.out.1 k_ h_.symm).2.2 h2_) FM.out).mono ?_
  rintro e w4 ⟨rfl, o0, o1, o2, hb, hk⟩
  clear zW_0 zW_1 zW_2 zG_0 zG_1 zG_2
  have BRn := Aside0.mk hb
  clear hb BR
  have BR := BRn
  clear BRn
  have Rm_0 := Aside0.mk o0
  have Rm_1 := Aside0.mk o1
  have Rm_2 := Aside0.mk o2
  clear o0 o1 o2
  have n_ := Aside0.mk (blk_kept BKW.out hk (fun hs_ => by rcases hs_ with hs_ | hs_ | hs_; (have := (Rg_0.out.1 _ hs_.symm).1; omega); (have := (Rg_1.out.1 _ hs_.symm).1; omega); (have := (Rg_2.out.1 _ hs_.symm).1; omega)))
  clear BKW
  have BKW := n_
  clear n_
  have n_ := Aside0.mk (blk_kept BKG.out hk (fun hs_ => by rcases hs_ with hs_ | hs_ | hs_; (have := (Rg_0.out.1 _ hs_.symm).1; omega); (have := (Rg_1.out.1 _ hs_.symm).1; omega); (have := (Rg_2.out.1 _ hs_.symm).1; omega)))
  clear BKG
  have BKG := n_
  clear n_
  clear hk
  clear Rg_0
  clear Rg_1
  clear Rg_2
  have zW_0 : w4.cell? ⟨w1.heap.size, 0, none⟩ = some (.slice As_0 g0.length cs_0) := (blk_cell (BKW.out) 0).trans rfl
  have zW_1 : w4.cell? ⟨w1.heap.size, 1, none⟩ = some (.slice As_1 g1.length cs_1) := (blk_cell (BKW.out) 1).trans rfl
  have zW_2 : w4.cell? ⟨w1.heap.size, 2, none⟩ = some (.slice As_2 g2.length cs_2) := (blk_cell (BKW.out) 2).trans rfl
  have zG_0 : w4.cell? ⟨w2.heap.size, 0, none⟩ = some (.slice Ag_0 g0.length cg_0) := (blk_cell (BKG.out) 0).trans rfl
  have zG_1 : w4.cell? ⟨w2.heap.size, 1, none⟩ = some (.slice Ag_1 g1.length cg_1) := (blk_cell (BKG.out) 1).trans rfl
  have zG_2 : w4.cell? ⟨w2.heap.size, 2, none⟩ = some (.slice Ag_2 g2.length cg_2) := (blk_cell (BKG.out) 2).trans rfl
  go_wp2_with fail
  have e0_ := (Kd.R_reads' Rm_0.out).1
  have e1_ := (Kd.R_reads' Rm_1.out).1
  have e2_ := (Kd.R_reads' Rm_2.out).1
  have hh_ := laws_heldGauss.calls k _ _ p0 _ _ p1 _ _ p2 1 m _ (Kd.R_reads' Rm_0.out).2.2 (by rw [← e0_]; exact (Kd.R_reads' Rm_0.out).2.1) (Kd.R_reads' Rm_1.out).2.2 (by rw [← e1_]; exact (Kd.R_reads' Rm_1.out).2.1) (Kd.R_reads' Rm_2.out).2.2 (by rw [← e2_]; exact (Kd.R_reads' Rm_2.out).2.1) FH.out
  rw [← e0_, ← e1_, ← e2_] at hh_
  clear e0_ e1_ e2_
  refine hh_.mono ?_
  clear hh_
  rintro e w5 ⟨rfl, hb⟩
  clear zW_0 zW_1 zW_2 zG_0 zG_1 zG_2
  have Bh5 := Aside0.mk (hb)
  clear hb
  have n_ := Aside0.mk (below_step BR.out Bh5.out)
  clear BR
  have BR := n_
  clear n_
  have n_ := Aside0.mk (Kd.R_below Rm_0.out Bh5.out)
  clear Rm_0
  have Rm_0 := n_
  clear n_
  have n_ := Aside0.mk (Kd.R_below Rm_1.out Bh5.out)
  clear Rm_1
  have Rm_1 := n_
  clear n_
  have n_ := Aside0.mk (Kd.R_below Rm_2.out Bh5.out)
  clear Rm_2
  have Rm_2 := n_
  clear n_
  have n_ := Aside0.mk (blk_below BKW.out Bh5.out)
  clear BKW
  have BKW := n_
  clear n_
  have n_ := Aside0.mk (blk_below BKG.out Bh5.out)
  clear BKG
  have BKG := n_
  clear n_
  have zW_0 : w5.cell? ⟨w1.heap.size, 0, none⟩ = some (.slice As_0 g0.length cs_0) := (blk_cell (BKW.out) 0).trans rfl
  have zW_1 : w5.cell? ⟨w1.heap.size, 1, none⟩ = some (.slice As_1 g1.length cs_1) := (blk_cell (BKW.out) 1).trans rfl
  have zW_2 : w5.cell? ⟨w1.heap.size, 2, none⟩ = some (.slice As_2 g2.length cs_2) := (blk_cell (BKW.out) 2).trans rfl
  have zG_0 : w5.cell? ⟨w2.heap.size, 0, none⟩ = some (.slice Ag_0 g0.length cg_0) := (blk_cell (BKG.out) 0).trans rfl
  have zG_1 : w5.cell? ⟨w2.heap.size, 1, none⟩ = some (.slice Ag_1 g1.length cg_1) := (blk_cell (BKG.out) 1).trans rfl
  have zG_2 : w5.cell? ⟨w2.heap.size, 2, none⟩ = some (.slice Ag_2 g2.length cg_2) := (blk_cell (BKG.out) 2).trans rfl
  go_wp2_with fail
  refine (impl_ParseGauss.calls k t0 g0 g1 g2 c _  FI.out).mono ?_
  rintro e w6 ⟨u0, u1, u2, rfl, o0, o1, o2, hb⟩
  clear zW_0 zW_1 zW_2 zG_0 zG_1 zG_2
  have Ry_0 := Aside0.mk o0
  have Ry_1 := Aside0.mk o1
  have Ry_2 := Aside0.mk o2
  have By := Aside0.mk hb
  clear o0 o1 o2 hb
  obtain ⟨Ay_0, cy_0, rfl⟩ := Kd.R_slice Ry_0.out
  obtain ⟨Ay_1, cy_1, rfl⟩ := Kd.R_slice Ry_1.out
  obtain ⟨Ay_2, cy_2, rfl⟩ := Kd.R_slice Ry_2.out
  have n_ := Aside0.mk (below_step BR.out By.out)
  clear BR
  have BR := n_
  clear n_
  have n_ := Aside0.mk (Kd.R_below Rm_0.out By.out)
  clear Rm_0
  have Rm_0 := n_
  clear n_
  have n_ := Aside0.mk (Kd.R_below Rm_1.out By.out)
  clear Rm_1
  have Rm_1 := n_
  clear n_
  have n_ := Aside0.mk (Kd.R_below Rm_2.out By.out)
  clear Rm_2
  have Rm_2 := n_
  clear n_
  have n_ := Aside0.mk (blk_below BKW.out By.out)
  clear BKW
  have BKW := n_
  clear n_
  have n_ := Aside0.mk (blk_below BKG.out By.out)
  clear BKG
  have BKG := n_
  clear n_
  have zW_0 : w6.cell? ⟨w1.heap.size, 0, none⟩ = some (.slice As_0 g0.length cs_0) := (blk_cell (BKW.out) 0).trans rfl
  have zW_1 : w6.cell? ⟨w1.heap.size, 1, none⟩ = some (.slice As_1 g1.length cs_1) := (blk_cell (BKW.out) 1).trans rfl
  have zW_2 : w6.cell? ⟨w1.heap.size, 2, none⟩ = some (.slice As_2 g2.length cs_2) := (blk_cell (BKW.out) 2).trans rfl
  have zG_0 : w6.cell? ⟨w2.heap.size, 0, none⟩ = some (.slice Ag_0 g0.length cg_0) := (blk_cell (BKG.out) 0).trans rfl
  have zG_1 : w6.cell? ⟨w2.heap.size, 1, none⟩ = some (.slice Ag_1 g1.length cg_1) := (blk_cell (BKG.out) 1).trans rfl
  have zG_2 : w6.cell? ⟨w2.heap.size, 2, none⟩ = some (.slice Ag_2 g2.length cg_2) := (blk_cell (BKG.out) 2).trans rfl
  have zWa0_0 : (w6.alloc (.cells #[.slice Ay_0 g0.length cy_0, .slice Ay_1 g1.length cy_1, .slice Ay_2 g2.length cy_2] 49)).cell? ⟨w1.heap.size, 0, none⟩ = some (.slice As_0 g0.length cs_0) := (blk_cell (blk_alloc BKW.out _) 0).trans rfl
  have zWa0_1 : (w6.alloc (.cells #[.slice Ay_0 g0.length cy_0, .slice Ay_1 g1.length cy_1, .slice Ay_2 g2.length cy_2] 49)).cell? ⟨w1.heap.size, 1, none⟩ = some (.slice As_1 g1.length cs_1) := (blk_cell (blk_alloc BKW.out _) 1).trans rfl
  have zWa0_2 : (w6.alloc (.cells #[.slice Ay_0 g0.length cy_0, .slice Ay_1 g1.length cy_1, .slice Ay_2 g2.length cy_2] 49)).cell? ⟨w1.heap.size, 2, none⟩ = some (.slice As_2 g2.length cs_2) := (blk_cell (blk_alloc BKW.out _) 2).trans rfl
  have zGa0_0 : (w6.alloc (.cells #[.slice Ay_0 g0.length cy_0, .slice Ay_1 g1.length cy_1, .slice Ay_2 g2.length cy_2] 49)).cell? ⟨w2.heap.size, 0, none⟩ = some (.slice Ag_0 g0.length cg_0) := (blk_cell (blk_alloc BKG.out _) 0).trans rfl
  have zGa0_1 : (w6.alloc (.cells #[.slice Ay_0 g0.length cy_0, .slice Ay_1 g1.length cy_1, .slice Ay_2 g2.length cy_2] 49)).cell? ⟨w2.heap.size, 1, none⟩ = some (.slice Ag_1 g1.length cg_1) := (blk_cell (blk_alloc BKG.out _) 1).trans rfl
  have zGa0_2 : (w6.alloc (.cells #[.slice Ay_0 g0.length cy_0, .slice Ay_1 g1.length cy_1, .slice Ay_2 g2.length cy_2] 49)).cell? ⟨w2.heap.size, 2, none⟩ = some (.slice Ag_2 g2.length cg_2) := (blk_cell (blk_alloc BKG.out _) 2).trans rfl
  have zYa0_0 : (w6.alloc (.cells #[.slice Ay_0 g0.length cy_0, .slice Ay_1 g1.length cy_1, .slice Ay_2 g2.length cy_2] 49)).cell? ⟨w6.heap.size, 0, none⟩ = some (.slice Ay_0 g0.length cy_0) := (blk_cell (blk_new _ _) 0).trans rfl
  have zYa0_1 : (w6.alloc (.cells #[.slice Ay_0 g0.length cy_0, .slice Ay_1 g1.length cy_1, .slice Ay_2 g2.length cy_2] 49)).cell? ⟨w6.heap.size, 1, none⟩ = some (.slice Ay_1 g1.length cy_1) := (blk_cell (blk_new _ _) 1).trans rfl
  have zYa0_2 : (w6.alloc (.cells #[.slice Ay_0 g0.length cy_0, .slice Ay_1 g1.length cy_1, .slice Ay_2 g2.length cy_2] 49)).cell? ⟨w6.heap.size, 2, none⟩ = some (.slice Ay_2 g2.length cy_2) := (blk_cell (blk_new _ _) 2).trans rfl
  go_wp2_with fail
  obtain ⟨wy, hwy_⟩ : ∃ x_ : World, w6.alloc (.cells #[.slice Ay_0 g0.length cy_0, .slice Ay_1 g1.length cy_1, .slice Ay_2 g2.length cy_2] 49) = x_ := ⟨_, rfl⟩
  rw [hwy_]
  have Bwy : Aside0 (Below w6.heap.size w6 wy) := ⟨by rw [← hwy_]; exact below_alloc (Below.refl _ _) _⟩
  have BKY : Aside0 (wy.heap[w6.heap.size]? = some (.cells #[.slice Ay_0 g0.length cy_0, .slice Ay_1 g1.length cy_1, .slice Ay_2 g2.length cy_2] 49 (0, 0))) := ⟨by rw [← hwy_]; exact blk_new _ _⟩
  clear hwy_
  have n_ := Aside0.mk (blk_below BKW.out Bwy.out)
  clear BKW
  have BKW := n_
  clear n_
  have n_ := Aside0.mk (blk_below BKG.out Bwy.out)
  clear BKG
  have BKG := n_
  clear n_
  have sWwy := blk_lt BKW.out
  have sGwy := blk_lt BKG.out
  have sYwy := blk_lt BKY.out
  have n_ := Aside0.mk (below_step BR.out Bwy.out)
  clear BR
  have BR := n_
  clear n_
  have n_ := Aside0.mk (Kd.R_below Rm_0.out Bwy.out)
  clear Rm_0
  have Rm_0 := n_
  clear n_
  have n_ := Aside0.mk (Kd.R_below Rm_1.out Bwy.out)
  clear Rm_1
  have Rm_1 := n_
  clear n_
  have n_ := Aside0.mk (Kd.R_below Rm_2.out Bwy.out)
  clear Rm_2
  have Rm_2 := n_
  clear n_
  have n_ := Aside0.mk (Kd.R_below Ry_0.out Bwy.out)
  clear Ry_0
  have Ry_0 := n_
  clear n_
  have n_ := Aside0.mk (Kd.R_below Ry_1.out Bwy.out)
  clear Ry_1
  have Ry_1 := n_
  clear n_
  have n_ := Aside0.mk (Kd.R_below Ry_2.out Bwy.out)
  clear Ry_2
  have Ry_2 := n_
  clear n_
  refine (laws_eqGauss.calls k _ _ g0 _ _ g1 _ _ g2 _ _ g0 _ _ g1 _ _ g2 true _ (Kd.R_reads' Ry_0.out).2.2 (Kd.R_reads' Ry_0.out).2.1 (Kd.R_reads' Ry_1.out).2.2 (Kd.R_reads' Ry_1.out).2.1 (Kd.R_reads' Ry_2.out).2.2 (Kd.R_reads' Ry_2.out).2.1 (Kd.C_below K0.out BR.out) LE0.out (Kd.C_below K1.out BR.out) LE1.out (Kd.C_below K2.out BR.out) LE2.out FE.out).mono ?_
  rintro e w7 ⟨rfl, hb⟩
  clear zW_0 zW_1 zW_2 zG_0 zG_1 zG_2 zWa0_0 zWa0_1 zWa0_2 zGa0_0 zGa0_1 zGa0_2 zYa0_0 zYa0_1 zYa0_2
  have Be7 := Aside0.mk (hb)
  clear hb
  have n_ := Aside0.mk (below_step BR.out Be7.out)
  clear BR
  have BR := n_
  clear n_
  have n_ := Aside0.mk (Kd.R_below Rm_0.out Be7.out)
  clear Rm_0
  have Rm_0 := n_
  clear n_
  have n_ := Aside0.mk (Kd.R_below Rm_1.out Be7.out)
  clear Rm_1
  have Rm_1 := n_
  clear n_
  have n_ := Aside0.mk (Kd.R_below Rm_2.out Be7.out)
  clear Rm_2
  have Rm_2 := n_
  clear n_
  have n_ := Aside0.mk (Kd.R_below Ry_0.out Be7.out)
  clear Ry_0
  have Ry_0 := n_
  clear n_
  have n_ := Aside0.mk (Kd.R_below Ry_1.out Be7.out)
  clear Ry_1
  have Ry_1 := n_
  clear n_
  have n_ := Aside0.mk (Kd.R_below Ry_2.out Be7.out)
  clear Ry_2
  have Ry_2 := n_
  clear n_
  have n_ := Aside0.mk (blk_below BKW.out Be7.out)
  clear BKW
  have BKW := n_
  clear n_
  have n_ := Aside0.mk (blk_below BKG.out Be7.out)
  clear BKG
  have BKG := n_
  clear n_
  have n_ := Aside0.mk (blk_below BKY.out Be7.out)
  clear BKY
  have BKY := n_
  clear n_
  clear Ry_0
  clear Ry_1
  clear Ry_2
  have zW_0 : w7.cell? ⟨w1.heap.size, 0, none⟩ = some (.slice As_0 g0.length cs_0) := (blk_cell (BKW.out) 0).trans rfl
  have zW_1 : w7.cell? ⟨w1.heap.size, 1, none⟩ = some (.slice As_1 g1.length cs_1) := (blk_cell (BKW.out) 1).trans rfl
  have zW_2 : w7.cell? ⟨w1.heap.size, 2, none⟩ = some (.slice As_2 g2.length cs_2) := (blk_cell (BKW.out) 2).trans rfl
  have zG_0 : w7.cell? ⟨w2.heap.size, 0, none⟩ = some (.slice Ag_0 g0.length cg_0) := (blk_cell (BKG.out) 0).trans rfl
  have zG_1 : w7.cell? ⟨w2.heap.size, 1, none⟩ = some (.slice Ag_1 g1.length cg_1) := (blk_cell (BKG.out) 1).trans rfl
  have zG_2 : w7.cell? ⟨w2.heap.size, 2, none⟩ = some (.slice Ag_2 g2.length cg_2) := (blk_cell (BKG.out) 2).trans rfl
  have zY_0 : w7.cell? ⟨w6.heap.size, 0, none⟩ = some (.slice Ay_0 g0.length cy_0) := (blk_cell (BKY.out) 0).trans rfl
  have zY_1 : w7.cell? ⟨w6.heap.size, 1, none⟩ = some (.slice Ay_1 g1.length cy_1) := (blk_cell (BKY.out) 1).trans rfl
  have zY_2 : w7.cell? ⟨w6.heap.size, 2, none⟩ = some (.slice Ay_2 g2.length cy_2) := (blk_cell (BKY.out) 2).trans rfl
  go_wp2_with fail
  have e0_ := (Kd.R_reads' Rm_0.out).1
  have e1_ := (Kd.R_reads' Rm_1.out).1
  have e2_ := (Kd.R_reads' Rm_2.out).1
  have hh_ := laws_heldGauss.calls k _ _ p0 _ _ p1 _ _ p2 1 m _ (Kd.R_reads' Rm_0.out).2.2 (by rw [← e0_]; exact (Kd.R_reads' Rm_0.out).2.1) (Kd.R_reads' Rm_1.out).2.2 (by rw [← e1_]; exact (Kd.R_reads' Rm_1.out).2.1) (Kd.R_reads' Rm_2.out).2.2 (by rw [← e2_]; exact (Kd.R_reads' Rm_2.out).2.1) FH.out
  rw [← e0_, ← e1_, ← e2_] at hh_
  clear e0_ e1_ e2_
  refine hh_.mono ?_
  clear hh_
  rintro e w8 ⟨rfl, hb⟩
  clear zW_0 zW_1 zW_2 zG_0 zG_1 zG_2 zY_0 zY_1 zY_2
  have Bh8 := Aside0.mk (hb)
  clear hb
  have n_ := Aside0.mk (below_step BR.out Bh8.out)
  clear BR
  have BR := n_
  clear n_
  have n_ := Aside0.mk (Kd.R_below Rm_0.out Bh8.out)
  clear Rm_0
  have Rm_0 := n_
  clear n_
  have n_ := Aside0.mk (Kd.R_below Rm_1.out Bh8.out)
  clear Rm_1
  have Rm_1 := n_
  clear n_
  have n_ := Aside0.mk (Kd.R_below Rm_2.out Bh8.out)
  clear Rm_2
  have Rm_2 := n_
  clear n_
  have n_ := Aside0.mk (blk_below BKW.out Bh8.out)
  clear BKW
  have BKW := n_
  clear n_
  have n_ := Aside0.mk (blk_below BKG.out Bh8.out)
  clear BKG
  have BKG := n_
  clear n_
  have n_ := Aside0.mk (blk_below BKY.out Bh8.out)
  clear BKY
  have BKY := n_
  clear n_
  go_wp2
  go_ret
  exact ⟨rfl, (below_then BW.out BW.out.size BR.out)⟩
def laws_FnExactParseGauss.Pure : Prop := ∀ (t0 : ByteArray), t0.size ≤ 1048576 → ∃ k c m g0 g1 g2 p0 p1 p2, laws_FnExactParseGauss.Told t0 k c m g0 g1 g2 p0 p1 p2
set_option maxHeartbeats 4000000 in
theorem laws_FnExactParseGauss.early (t0 : ByteArray) (w : World) (hs0 : 1048576 < t0.size) (hm : t0.size ≤ maxLen) :
    Calls Try.prog 19 #[.string t0] w fun e w' => e = .returned (.bool true) ∧ Below w.heap.size w w' := by
  have d1 : decide (1048576 < t0.size) = true := decide_eq_true hs0
  have d2 : decide ((1048576 : Int) < (t0.size : Int)) = true := decide_eq_true (by omega)
  go_enter Try.func19, Try.ntmps19
  go_wp2
  go_ret
  exact ⟨rfl, Below.refl _ _⟩
theorem laws_FnExactParseGauss.walk (P : laws_FnExactParseGauss.Pure) (a0 : ByteArray) (w : World) (w0 : a0.size ≤ 140737488351232) :
    Calls Try.prog 19 #[.string a0] w fun e w' => e = .returned (.bool true) ∧ Below w.heap.size w w' := by
  by_cases hs : a0.size ≤ 1048576
  · obtain ⟨k, c, m, g0, g1, g2, p0, p1, p2, h⟩ := P a0 hs
    exact laws_FnExactParseGauss.one a0 w hs k c m g0 g1 g2 p0 p1 p2 h
  · exact laws_FnExactParseGauss.early a0 w (by omega) (by unfold maxLen; omega)

end Go.Proofs.Ytckmncebedhgeaa.G
