-- Written by the session's program mk.py (which runs the kit's print.py over functions and over contracts given by hand).
import Derived.Test.YtflpdjmdkdgijaaG0
import Derived.Test.YtflpdjmdkdgijaaG10
import Derived.Test.YtflpdjmdkdgijaaG11
import Derived.Test.YtflpdjmdkdgijaaG23
import Derived.Test.YtflpdjmdkdgijaaG24
import Derived.Test.YtflpdjmdkdgijaaG9
namespace Go.Proofs.Ytflpdjmdkdgijaa.G
open Go.RowKit Go.Maps Go.Proofs.YtflpdjmdkdgijaaW.PrintWords Go.Proofs.YtflpdjmdkdgijaaW.PrintLast Go.Proofs.YtflpdjmdkdgijaaW.PrintMore
attribute [local go_sem] max2_int min2_int max_two min_two max_three min_three max_four min_four   -- for this text's walks alone
set_option linter.unusedVariables false
set_option linter.unusedSimpArgs false

/-! ### spec_NamedWeb: function 7 -/
def spec_NamedWeb.f (a0 : ByteArray) : Option (List Int × (List (List Int)) × Int) := (spec_l06Named.f a0).bind fun bt102 => (if bt102.2.2 = true then (some (bt102.1, bt102.2.1, 0)) else (some (([] : List Int), ([] : List (List Int)), 4)))
set_option maxHeartbeats 8000000 in
set_option maxRecDepth 100000 in
theorem spec_NamedWeb.calls (a0 : ByteArray) (r1 : List Int) (r2 : List (List Int)) (r3 : Int) (w : World) (h : spec_NamedWeb.f a0 = some (r1, r2, r3)) :
    Calls Try.prog 7 #[.string a0] w fun e w' => ∃ v0_ v1_ : Value, e = .returned (.tuple #[.agg #[v0_, v1_], .int .i64 r3]) ∧ Kd.R (Kd.int .i64) 2 w' w.heap.size (fun k_ => (w.heap.size ≤ k_)) v0_ r1 ∧ Kd.N (Kd.slice 2 (Kd.int .i64)) 22 w' w.heap.size (fun k_ => (w.heap.size ≤ k_) ∧ some k_ ≠ (v0_ : Value).ownBlock) v1_ r2 ∧ Below w.heap.size w w' := by
  have hu25 := Try.underlying25
  have HB := Aside0.mk (Below.refl w.heap.size w)
  have H : ((spec_l06Named.f a0).bind fun bt102 => (if bt102.2.2 = true then (some (bt102.1, bt102.2.1, 0)) else (some (([] : List Int), ([] : List (List Int)), 4)))) = some (r1, r2, r3) := h
  clear h
  replace H := Option.bind_eq_some_iff.mp H
  obtain ⟨⟨t102, t105, t108⟩, A20, H⟩ := H
  replace H : (if t108 = true then (some (t102, t105, 0)) else (some (([] : List Int), ([] : List (List Int)), 4))) = some (r1, r2, r3) := H
  have A2 := Aside0.mk A20
  clear A20
  by_cases c3 : t108 = true
  · subst c3
    have H1 : (some (t102, t105, 0)) = some (r1, r2, r3) := by rw [if_pos rfl] at H; exact H
    clear H
    have H := H1
    clear H1
    simp only [Option.some.injEq, Prod.mk.injEq] at H
    obtain ⟨rfl, rfl, rfl⟩ := H
    go_enter Try.func7, Try.ntmps7
    go_wp2_with (first | ((with_reducible refine gate_dst (N := 2) rfl ?_); refine box_event ?hg (N := 2) ?hd (cs := #[.slice none 0 0, .slice none 0 0]) (t := 25) ?hr ?_; (case hd => rfl); (case hg => rfl); (case hr => first | (go_simp; done) | (go_simp; rfl)); intro gb101 hg w4 hbox hb; have n0_ := Aside0.mk (below_step (by repeat (first | (with_reducible first | exact HB.out | apply below_alloc | apply pw_below_drewN | apply below_drew1) | exact HB.out)) hb); have n1_ := Aside0.mk (hbox); have n2_ := Aside0.mk ((by rw [hg]; exact (below_size (by repeat (first | (with_reducible first | exact HB.out | apply below_alloc | apply pw_below_drewN | apply below_drew1) | exact HB.out))) : w.heap.size ≤ gb101)); have n3_ := Aside0.mk ((by rw [hg]; exact (below_size (by repeat (first | (with_reducible first | exact HB.out | apply below_alloc | apply pw_below_drewN | apply below_drew1) | exact HB.out))) : w.heap.size ≤ gb101)); clear HB; have HB := n0_; have BK101 := n1_; have GW101 := n2_; have GE101 := n3_; clear n0_ n1_ n2_ n3_; clear hb hbox hg) | ((with_reducible refine gate_callee (f := 23) rfl ?_); refine goesL_ (some 8) rfl rfl Try.func23 (by kernel_rfl) rfl #[.string a0] rfl (by (try simp only [List.map_toArray, List.map_cons, List.map_nil]); first | done | rfl | (simp only [List.length_drop, List.length_take]; rfl)) ?_; (with_reducible refine (spec_l06Named.calls a0 t102 t105 true _ A2.out).mono ?_); rintro e w5 ⟨v103, v106, rfl, ho0, ho1, hb⟩; refine ⟨_, rfl, ?_⟩; have n0_ := Aside0.mk (Kd.R_lower (Kd.R_newM (M := fun k_ => (w.heap.size ≤ k_)) (Kd.R_mono (ok' := fun k_ => True) ho0 (fun _ hk_ => trivial)) (below_size (by repeat (first | (with_reducible first | exact HB.out | apply below_alloc | apply pw_below_drewN | apply below_drew1 | refine below_set ?_ GE101.out) | exact HB.out))) (fun k_ h_ => h_)) (below_size (by repeat (first | (with_reducible first | exact HB.out | apply below_alloc | apply pw_below_drewN | apply below_drew1 | refine below_set ?_ GE101.out) | exact HB.out)))); have n1_ := Aside0.mk (Kd.N_lower (Kd.N_mono (ok' := fun k_ => (w.heap.size ≤ k_) ∧ some k_ ≠ (v103 : Value).ownBlock ∧ k_ ≠ gb101) ho1 (fun k_ hk_ => ⟨(Nat.le_trans (below_size (by repeat (first | (with_reducible first | exact HB.out | apply below_alloc | apply pw_below_drewN | apply below_drew1 | refine below_set ?_ GE101.out) | exact HB.out))) hk_.1), hk_.2, (Kd.freshB (g := gb101) (o := .cells #[.slice none 0 0, .slice none 0 0] 25 (0, 0)) (by (with_reducible repeat (first | refine blk_drewN ?_ _ | refine blk_drew ?_ | refine blk_alloc ?_ _)); exact BK101.out) k_ hk_.1)⟩)) (below_size (by repeat (first | (with_reducible first | exact HB.out | apply below_alloc | apply pw_below_drewN | apply below_drew1 | refine below_set ?_ GE101.out) | exact HB.out)))); have n2_ := Aside0.mk (blk_below (g := gb101) (o := .cells #[.slice none 0 0, .slice none 0 0] 25 (0, 0)) (by (with_reducible repeat (first | refine blk_drewN ?_ _ | refine blk_drew ?_ | refine blk_alloc ?_ _)); exact BK101.out) hb); have n3_ := Aside0.mk (below_step (by repeat (first | (with_reducible first | exact HB.out | apply below_alloc | apply pw_below_drewN | apply below_drew1 | refine below_set ?_ GE101.out) | exact HB.out)) hb); clear BK101; clear HB; have HO104 := n0_; have HO107 := n1_; have BK101 := n2_; have HB := n3_; clear n0_ n1_ n2_ n3_; (try clear hb); (try clear hb2); (try clear hk); (try clear hi); (try clear ho0); (try clear ho1)) | ((with_reducible refine gate_dst (N := 4) rfl ?_); refine box_event ?hg (N := 4) ?hd (cs := #[.slice none 0 0, .slice none 0 0]) (t := 25) ?hr ?_; (case hd => rfl); (case hg => rfl); (case hr => first | (go_simp; done) | (go_simp; rfl)); intro gb109 hg w6 hbox hb; have n0_ := Aside0.mk (Kd.R_below (by (with_reducible repeat (first | apply Kd.R_alloc | apply Kd.R_drewN | apply Kd.R_drew)); exact HO104.out) hb); have n1_ := Aside0.mk (Kd.N_below (Kd.N_elderB (by (with_reducible repeat (first | apply Kd.N_alloc | apply Kd.N_drewN | apply Kd.N_drew)); exact HO107.out) gb109 (Nat.le_of_eq hg.symm)) hb); have n2_ := Aside0.mk (blk_below (g := gb101) (o := .cells #[.slice none 0 0, .slice none 0 0] 25 (0, 0)) (by (with_reducible repeat (first | refine blk_drewN ?_ _ | refine blk_drew ?_ | refine blk_alloc ?_ _)); exact BK101.out) hb); have n3_ := Aside0.mk (below_step (by repeat (first | (with_reducible first | exact HB.out | apply below_alloc | apply pw_below_drewN | apply below_drew1 | refine below_set ?_ GE101.out) | exact HB.out)) hb); have n4_ := Aside0.mk (hbox); have n5_ := Aside0.mk ((by rw [hg]; exact (below_size (by repeat (first | (with_reducible first | exact HB.out | apply below_alloc | apply pw_below_drewN | apply below_drew1 | refine below_set ?_ GE101.out) | exact HB.out))) : w.heap.size ≤ gb109)); have n6_ := Aside0.mk ((by rw [hg]; exact (below_size (by repeat (first | (with_reducible first | exact HB.out | apply below_alloc | apply pw_below_drewN | apply below_drew1 | refine below_set ?_ GE101.out) | exact HB.out))) : w.heap.size ≤ gb109)); have n7_ := Aside0.mk ((by rw [hg]; exact Nat.ne_of_lt (blk_lt (g := gb101) (o := .cells #[.slice none 0 0, .slice none 0 0] 25 (0, 0)) (by (with_reducible repeat (first | refine blk_drewN ?_ _ | refine blk_drew ?_ | refine blk_alloc ?_ _)); exact BK101.out)) : gb101 ≠ gb109)); have n8_ := Aside0.mk ((by rw [hg]; exact Nat.ne_of_gt (blk_lt (g := gb101) (o := .cells #[.slice none 0 0, .slice none 0 0] 25 (0, 0)) (by (with_reducible repeat (first | refine blk_drewN ?_ _ | refine blk_drew ?_ | refine blk_alloc ?_ _)); exact BK101.out)) : gb109 ≠ gb101)); clear HO104; clear HO107; clear BK101; clear HB; have HO104 := n0_; have HO107 := n1_; have BK101 := n2_; have HB := n3_; have BK109 := n4_; have GW109 := n5_; have GE109 := n6_; have NB101_109 := n7_; have NB109_101 := n8_; clear n0_ n1_ n2_ n3_ n4_ n5_ n6_ n7_ n8_; clear hb hbox hg; obtain ⟨Ao7, co7, eo7⟩ := Kd.R_slice HO104.out; subst eo7; have hnb8 := NB109_101.out; have hnc8 := NB101_109.out; have hcz9_0 : w6.cell? ⟨gb109, 0, none⟩ = some (.slice none 0 0) := (blk_cell BK109.out 0).trans rfl; have hcz9_1 : w6.cell? ⟨gb109, 1, none⟩ = some (.slice none 0 0) := (blk_cell BK109.out 1).trans rfl; have hfz9_0 := blk_frozen BK109.out 0; have hfz9_1 := blk_frozen BK109.out 1; obtain ⟨Ao10, co10, eo10⟩ := Kd.N_slice HO107.out; subst eo10; have hcz11_0 : w6.cell? ⟨gb101, 0, none⟩ = some (.slice none 0 0) := (blk_cell BK101.out 0).trans rfl; have hcz11_1 : w6.cell? ⟨gb101, 1, none⟩ = some (.slice none 0 0) := (blk_cell BK101.out 1).trans rfl; have hfz11_0 := blk_frozen BK101.out 0; have hfz11_1 := blk_frozen BK101.out 1))
    refine bodyPost_ret (results_ct rfl _ _ gb101 25 #[.slice Ao7 t102.length co7, .slice Ao10 t105.length co10] (0, 0) _ rfl (by (with_reducible repeat (first | refine blk_drewN ?_ _ | refine blk_drew ?_ | refine blk_alloc ?_ _)); refine blk_put (cs := #[.slice Ao7 t102.length co7, .slice none 0 0]) ?_ 1 _ rfl; (with_reducible repeat (first | refine blk_drewN ?_ _ | refine blk_drew ?_ | refine blk_alloc ?_ _)); refine blk_put (cs := #[.slice none 0 0, .slice none 0 0]) ?_ 0 _ rfl; (with_reducible repeat (first | refine blk_drewN ?_ _ | refine blk_drew ?_ | refine blk_alloc ?_ _)); refine blk_far ?_ NB101_109.out _; (with_reducible repeat (first | refine blk_drewN ?_ _ | refine blk_drew ?_ | refine blk_alloc ?_ _)); refine blk_far ?_ NB101_109.out _; (with_reducible repeat (first | refine blk_drewN ?_ _ | refine blk_drew ?_ | refine blk_alloc ?_ _)); exact BK101.out) Try.underlying25 rfl (by kernel_rfl)) rfl ?_
    exact ⟨_, _, by first | rfl | (simp [errW_none, errW_some] <;> rfl) | (simp [*, errW_none, errW_some] <;> rfl), by (with_reducible repeat (first | apply Kd.R_alloc | apply Kd.R_drewN | apply Kd.R_drew)); exact Kd.R_mono (Kd.R_far (p := ⟨gb101, 1, none⟩) (Kd.R_far (p := ⟨gb101, 0, none⟩) (Kd.R_far (p := ⟨gb109, 1, none⟩) (Kd.R_far (p := ⟨gb109, 0, none⟩) (Kd.R_types (Kd.R_types HO104.out BK109.out (by decide)) BK101.out (by decide)) (fun _ hk => hk.1.2) (.slice Ao7 t102.length co7)) (fun _ hk => hk.1.2) (.slice Ao10 t105.length co10)) (fun _ hk => hk.2) (.slice Ao7 t102.length co7)) (fun _ hk => hk.2) (.slice Ao10 t105.length co10)) (fun _ hk => hk.1.1.1), by (with_reducible repeat (first | apply Kd.N_alloc | apply Kd.N_drewN | apply Kd.N_drew)); exact Kd.N_mono (Kd.N_far (p := ⟨gb101, 1, none⟩) (Kd.N_far (p := ⟨gb101, 0, none⟩) (Kd.N_far (p := ⟨gb109, 1, none⟩) (Kd.N_far (p := ⟨gb109, 0, none⟩) (Kd.N_mono (Kd.N_mono HO107.out (fun k_ hk => (⟨hk, hk.2⟩ : _ ∧ k_ ≠ gb109))) (fun k_ hk => (⟨hk, hk.1.1.2.2⟩ : _ ∧ k_ ≠ gb101))) (fun _ hk => hk.1.2) (.slice Ao7 t102.length co7)) (fun _ hk => hk.1.2) (.slice Ao10 t105.length co10)) (fun _ hk => hk.2) (.slice Ao7 t102.length co7)) (fun _ hk => hk.2) (.slice Ao10 t105.length co10)) (fun _ hk => ⟨hk.1.1.1.1, hk.1.1.1.2.1⟩), by repeat (first | (with_reducible first | exact HB.out | apply below_alloc | apply pw_below_drewN | apply below_drew1 | refine below_set ?_ GE101.out | refine below_set ?_ GE109.out) | exact HB.out)⟩
  · replace c3 := Bool.eq_false_iff.mpr c3
    subst c3
    have H1 : (some (([] : List Int), ([] : List (List Int)), 4)) = some (r1, r2, r3) := by rw [if_neg (show ¬ (false = true) by decide)] at H; exact H
    clear H
    have H := H1
    clear H1
    simp only [Option.some.injEq, Prod.mk.injEq] at H
    obtain ⟨rfl, rfl, rfl⟩ := H
    go_enter Try.func7, Try.ntmps7
    go_wp2_with (first | ((with_reducible refine gate_dst (N := 2) rfl ?_); refine box_event ?hg (N := 2) ?hd (cs := #[.slice none 0 0, .slice none 0 0]) (t := 25) ?hr ?_; (case hd => rfl); (case hg => rfl); (case hr => first | (go_simp; done) | (go_simp; rfl)); intro gb101 hg w12 hbox hb; have n0_ := Aside0.mk (below_step (by repeat (first | (with_reducible first | exact HB.out | apply below_alloc | apply pw_below_drewN | apply below_drew1) | exact HB.out)) hb); have n1_ := Aside0.mk (hbox); have n2_ := Aside0.mk ((by rw [hg]; exact (below_size (by repeat (first | (with_reducible first | exact HB.out | apply below_alloc | apply pw_below_drewN | apply below_drew1) | exact HB.out))) : w.heap.size ≤ gb101)); have n3_ := Aside0.mk ((by rw [hg]; exact (below_size (by repeat (first | (with_reducible first | exact HB.out | apply below_alloc | apply pw_below_drewN | apply below_drew1) | exact HB.out))) : w.heap.size ≤ gb101)); clear HB; have HB := n0_; have BK101 := n1_; have GW101 := n2_; have GE101 := n3_; clear n0_ n1_ n2_ n3_; clear hb hbox hg) | ((with_reducible refine gate_callee (f := 23) rfl ?_); refine goesL_ (some 8) rfl rfl Try.func23 (by kernel_rfl) rfl #[.string a0] rfl (by (try simp only [List.map_toArray, List.map_cons, List.map_nil]); first | done | rfl | (simp only [List.length_drop, List.length_take]; rfl)) ?_; (with_reducible refine (spec_l06Named.calls a0 t102 t105 false _ A2.out).mono ?_); rintro e w13 ⟨v103, v106, rfl, ho0, ho1, hb⟩; refine ⟨_, rfl, ?_⟩; have n0_ := Aside0.mk (Kd.R_lower (Kd.R_newM (M := fun k_ => (w.heap.size ≤ k_)) (Kd.R_mono (ok' := fun k_ => True) ho0 (fun _ hk_ => trivial)) (below_size (by repeat (first | (with_reducible first | exact HB.out | apply below_alloc | apply pw_below_drewN | apply below_drew1 | refine below_set ?_ GE101.out) | exact HB.out))) (fun k_ h_ => h_)) (below_size (by repeat (first | (with_reducible first | exact HB.out | apply below_alloc | apply pw_below_drewN | apply below_drew1 | refine below_set ?_ GE101.out) | exact HB.out)))); have n1_ := Aside0.mk (Kd.N_lower (Kd.N_mono (ok' := fun k_ => (w.heap.size ≤ k_) ∧ some k_ ≠ (v103 : Value).ownBlock ∧ k_ ≠ gb101) ho1 (fun k_ hk_ => ⟨(Nat.le_trans (below_size (by repeat (first | (with_reducible first | exact HB.out | apply below_alloc | apply pw_below_drewN | apply below_drew1 | refine below_set ?_ GE101.out) | exact HB.out))) hk_.1), hk_.2, (Kd.freshB (g := gb101) (o := .cells #[.slice none 0 0, .slice none 0 0] 25 (0, 0)) (by (with_reducible repeat (first | refine blk_drewN ?_ _ | refine blk_drew ?_ | refine blk_alloc ?_ _)); exact BK101.out) k_ hk_.1)⟩)) (below_size (by repeat (first | (with_reducible first | exact HB.out | apply below_alloc | apply pw_below_drewN | apply below_drew1 | refine below_set ?_ GE101.out) | exact HB.out)))); have n2_ := Aside0.mk (blk_below (g := gb101) (o := .cells #[.slice none 0 0, .slice none 0 0] 25 (0, 0)) (by (with_reducible repeat (first | refine blk_drewN ?_ _ | refine blk_drew ?_ | refine blk_alloc ?_ _)); exact BK101.out) hb); have n3_ := Aside0.mk (below_step (by repeat (first | (with_reducible first | exact HB.out | apply below_alloc | apply pw_below_drewN | apply below_drew1 | refine below_set ?_ GE101.out) | exact HB.out)) hb); clear BK101; clear HB; have HO104 := n0_; have HO107 := n1_; have BK101 := n2_; have HB := n3_; clear n0_ n1_ n2_ n3_; (try clear hb); (try clear hb2); (try clear hk); (try clear hi); (try clear ho0); (try clear ho1)) | ((with_reducible refine gate_dst (N := 4) rfl ?_); refine box_event ?hg (N := 4) ?hd (cs := #[.slice none 0 0, .slice none 0 0]) (t := 25) ?hr ?_; (case hd => rfl); (case hg => rfl); (case hr => first | (go_simp; done) | (go_simp; rfl)); intro gb109 hg w14 hbox hb; have n0_ := Aside0.mk (Kd.R_below (by (with_reducible repeat (first | apply Kd.R_alloc | apply Kd.R_drewN | apply Kd.R_drew)); exact HO104.out) hb); have n1_ := Aside0.mk (Kd.N_below (Kd.N_elderB (by (with_reducible repeat (first | apply Kd.N_alloc | apply Kd.N_drewN | apply Kd.N_drew)); exact HO107.out) gb109 (Nat.le_of_eq hg.symm)) hb); have n2_ := Aside0.mk (blk_below (g := gb101) (o := .cells #[.slice none 0 0, .slice none 0 0] 25 (0, 0)) (by (with_reducible repeat (first | refine blk_drewN ?_ _ | refine blk_drew ?_ | refine blk_alloc ?_ _)); exact BK101.out) hb); have n3_ := Aside0.mk (below_step (by repeat (first | (with_reducible first | exact HB.out | apply below_alloc | apply pw_below_drewN | apply below_drew1 | refine below_set ?_ GE101.out) | exact HB.out)) hb); have n4_ := Aside0.mk (hbox); have n5_ := Aside0.mk ((by rw [hg]; exact (below_size (by repeat (first | (with_reducible first | exact HB.out | apply below_alloc | apply pw_below_drewN | apply below_drew1 | refine below_set ?_ GE101.out) | exact HB.out))) : w.heap.size ≤ gb109)); have n6_ := Aside0.mk ((by rw [hg]; exact (below_size (by repeat (first | (with_reducible first | exact HB.out | apply below_alloc | apply pw_below_drewN | apply below_drew1 | refine below_set ?_ GE101.out) | exact HB.out))) : w.heap.size ≤ gb109)); have n7_ := Aside0.mk ((by rw [hg]; exact Nat.ne_of_lt (blk_lt (g := gb101) (o := .cells #[.slice none 0 0, .slice none 0 0] 25 (0, 0)) (by (with_reducible repeat (first | refine blk_drewN ?_ _ | refine blk_drew ?_ | refine blk_alloc ?_ _)); exact BK101.out)) : gb101 ≠ gb109)); have n8_ := Aside0.mk ((by rw [hg]; exact Nat.ne_of_gt (blk_lt (g := gb101) (o := .cells #[.slice none 0 0, .slice none 0 0] 25 (0, 0)) (by (with_reducible repeat (first | refine blk_drewN ?_ _ | refine blk_drew ?_ | refine blk_alloc ?_ _)); exact BK101.out)) : gb109 ≠ gb101)); clear HO104; clear HO107; clear BK101; clear HB; have HO104 := n0_; have HO107 := n1_; have BK101 := n2_; have HB := n3_; have BK109 := n4_; have GW109 := n5_; have GE109 := n6_; have NB101_109 := n7_; have NB109_101 := n8_; clear n0_ n1_ n2_ n3_ n4_ n5_ n6_ n7_ n8_; clear hb hbox hg; obtain ⟨Ao15, co15, eo15⟩ := Kd.R_slice HO104.out; subst eo15; have hnb16 := NB109_101.out; have hnc16 := NB101_109.out; have hcz17_0 : w14.cell? ⟨gb109, 0, none⟩ = some (.slice none 0 0) := (blk_cell BK109.out 0).trans rfl; have hcz17_1 : w14.cell? ⟨gb109, 1, none⟩ = some (.slice none 0 0) := (blk_cell BK109.out 1).trans rfl; have hfz17_0 := blk_frozen BK109.out 0; have hfz17_1 := blk_frozen BK109.out 1; obtain ⟨Ao18, co18, eo18⟩ := Kd.N_slice HO107.out; subst eo18; have hcz19_0 : w14.cell? ⟨gb101, 0, none⟩ = some (.slice none 0 0) := (blk_cell BK101.out 0).trans rfl; have hcz19_1 : w14.cell? ⟨gb101, 1, none⟩ = some (.slice none 0 0) := (blk_cell BK101.out 1).trans rfl; have hfz19_0 := blk_frozen BK101.out 0; have hfz19_1 := blk_frozen BK101.out 1))
    refine bodyPost_ret (results_ct rfl _ _ gb101 25 #[.slice none 0 0, .slice none 0 0] (0, 0) _ rfl (by (with_reducible repeat (first | refine blk_drewN ?_ _ | refine blk_drew ?_ | refine blk_alloc ?_ _)); refine blk_put (cs := #[.slice none 0 0, .slice none 0 0]) ?_ 1 _ rfl; (with_reducible repeat (first | refine blk_drewN ?_ _ | refine blk_drew ?_ | refine blk_alloc ?_ _)); refine blk_put (cs := #[.slice none 0 0, .slice none 0 0]) ?_ 0 _ rfl; (with_reducible repeat (first | refine blk_drewN ?_ _ | refine blk_drew ?_ | refine blk_alloc ?_ _)); refine blk_far ?_ NB101_109.out _; (with_reducible repeat (first | refine blk_drewN ?_ _ | refine blk_drew ?_ | refine blk_alloc ?_ _)); refine blk_far ?_ NB101_109.out _; (with_reducible repeat (first | refine blk_drewN ?_ _ | refine blk_drew ?_ | refine blk_alloc ?_ _)); exact BK101.out) Try.underlying25 rfl (by kernel_rfl)) rfl ?_
    exact ⟨_, _, by first | rfl | (simp [errW_none, errW_some] <;> rfl) | (simp [*, errW_none, errW_some] <;> rfl), by first | exact Kd.R_nil _ _ _ _ _ | exact Kd.N_nil _ _ _ _ _ | exact Kd.V_nil _ _ _ _ _ | exact Kd.Q_nil _ _ _ _ _ | exact Kd.S_nil _ _ _ _ _, by first | exact Kd.S_nil _ _ _ _ _ | exact Kd.N_nil _ _ _ _ _ | exact Kd.V_nil _ _ _ _ _ | exact Kd.Q_nil _ _ _ _ _ | exact Kd.R_nil _ _ _ _ _, by repeat (first | (with_reducible first | exact HB.out | apply below_alloc | apply pw_below_drewN | apply below_drew1 | refine below_set ?_ GE101.out | refine below_set ?_ GE109.out) | exact HB.out)⟩

/-! ### impl_NamedWeb: function 8 -/
def impl_NamedWeb.f (a0 : ByteArray) : Option (List Int × (List (List Int)) × Int) := (spec_l06Named.f a0).bind fun bt102 => (if bt102.2.2 = true then (some (bt102.1, bt102.2.1, 0)) else (some (([] : List Int), ([] : List (List Int)), 4)))
set_option maxHeartbeats 8000000 in
set_option maxRecDepth 100000 in
theorem impl_NamedWeb.calls0 (a0 : ByteArray) (r1 : List Int) (r2 : List (List Int)) (r3 : Int) (w : World) (hz : a0.size ≤ 1048576) (h : impl_NamedWeb.f a0 = some (r1, r2, r3)) :
    Calls Try.prog 8 #[.string a0] w fun e w' => ∃ v0_ v1_ : Value, e = .returned (.tuple #[.agg #[v0_, v1_], .int .i64 r3]) ∧ Kd.R (Kd.int .i64) 2 w' w.heap.size (fun k_ => (w.heap.size ≤ k_)) v0_ r1 ∧ Kd.S (Kd.slice 2 (Kd.int .i64)) 22 w' w.heap.size (fun k_ => (w.heap.size ≤ k_) ∧ some k_ ≠ (v0_ : Value).ownBlock) v1_ r2 ∧ Below w.heap.size w w' := by
  have hu25 := Try.underlying25
  have HB := Aside0.mk (Below.refl w.heap.size w)
  have H : ((spec_l06Named.f a0).bind fun bt102 => (if bt102.2.2 = true then (some (bt102.1, bt102.2.1, 0)) else (some (([] : List Int), ([] : List (List Int)), 4)))) = some (r1, r2, r3) := h
  clear h
  replace H := Option.bind_eq_some_iff.mp H
  obtain ⟨⟨t102, t105, t108⟩, A20, H⟩ := H
  replace H : (if t108 = true then (some (t102, t105, 0)) else (some (([] : List Int), ([] : List (List Int)), 4))) = some (r1, r2, r3) := H
  have A2 := Aside0.mk A20
  clear A20
  by_cases c3 : t108 = true
  · subst c3
    have H1 : (some (t102, t105, 0)) = some (r1, r2, r3) := by rw [if_pos rfl] at H; exact H
    clear H
    have H := H1
    clear H1
    simp only [Option.some.injEq, Prod.mk.injEq] at H
    obtain ⟨rfl, rfl, rfl⟩ := H
    go_enter Try.func8, Try.ntmps8
    go_wp2_with (first | ((with_reducible refine gate_dst (N := 9) rfl ?_); refine Kd.event_run (v := .tuple #[.agg #[v103, v106], .bool true]) (w1 := w5) rfl (by go_simp; rw [HLOOK.out]; rfl) ?_) | ((with_reducible refine gate_dst (N := 2) rfl ?_); refine box_event ?hg (N := 2) ?hd (cs := #[.slice none 0 0, .slice none 0 0]) (t := 25) ?hr ?_; (case hd => rfl); (case hg => rfl); (case hr => first | (go_simp; done) | (go_simp; rfl)); intro gb101 hg w4 hbox hb; have n0_ := Aside0.mk (below_step (by repeat (first | (with_reducible first | exact HB.out | apply below_alloc | apply pw_below_drewN | apply below_drew1) | exact HB.out)) hb); have n1_ := Aside0.mk (hbox); have n2_ := Aside0.mk ((by rw [hg]; exact (below_size (by repeat (first | (with_reducible first | exact HB.out | apply below_alloc | apply pw_below_drewN | apply below_drew1) | exact HB.out))) : w.heap.size ≤ gb101)); have n3_ := Aside0.mk ((by rw [hg]; exact (below_size (by repeat (first | (with_reducible first | exact HB.out | apply below_alloc | apply pw_below_drewN | apply below_drew1) | exact HB.out))) : w.heap.size ≤ gb101)); clear HB; have HB := n0_; have BK101 := n1_; have GW101 := n2_; have GE101 := n3_; clear n0_ n1_ n2_ n3_; clear hb hbox hg) | ((with_reducible refine gate_callee (f := 24) rfl ?_); refine goesL_ (some 7) rfl rfl Try.func24 (by kernel_rfl) rfl #[] rfl (by (try simp only [List.map_toArray, List.map_cons, List.map_nil]); first | done | rfl | (simp only [List.length_drop, List.length_take]; rfl)) ?_; (with_reducible refine (impl_named.calls _).mono ?_); rintro e w5 ⟨b_, rfl, hm_, hb⟩; refine ⟨_, rfl, ?_⟩; obtain ⟨v103, v106, hl_, ho0, ho1⟩ := named_look a0 A2.out (by unfold maxLen; omega) hm_; have HLOOK := Aside0.mk hl_; clear hl_ hm_; have n0_ := Aside0.mk (Kd.R_lower (Kd.R_newM (M := fun k_ => (w.heap.size ≤ k_)) (Kd.R_mono (ok' := fun k_ => True) ho0 (fun _ hk_ => trivial)) (below_size (by repeat (first | (with_reducible first | exact HB.out | apply below_alloc | apply pw_below_drewN | apply below_drew1 | refine below_set ?_ GE101.out) | exact HB.out))) (fun k_ h_ => h_)) (below_size (by repeat (first | (with_reducible first | exact HB.out | apply below_alloc | apply pw_below_drewN | apply below_drew1 | refine below_set ?_ GE101.out) | exact HB.out)))); have n1_ := Aside0.mk (Kd.S_lower (Kd.S_mono (ok' := fun k_ => (w.heap.size ≤ k_) ∧ some k_ ≠ (v103 : Value).ownBlock ∧ k_ ≠ gb101) ho1 (fun k_ hk_ => ⟨(Nat.le_trans (below_size (by repeat (first | (with_reducible first | exact HB.out | apply below_alloc | apply pw_below_drewN | apply below_drew1 | refine below_set ?_ GE101.out) | exact HB.out))) hk_.1), hk_.2, (Kd.freshB (g := gb101) (o := .cells #[.slice none 0 0, .slice none 0 0] 25 (0, 0)) (by (with_reducible repeat (first | refine blk_drewN ?_ _ | refine blk_drew ?_ | refine blk_alloc ?_ _)); exact BK101.out) k_ hk_.1)⟩)) (below_size (by repeat (first | (with_reducible first | exact HB.out | apply below_alloc | apply pw_below_drewN | apply below_drew1 | refine below_set ?_ GE101.out) | exact HB.out)))); have n2_ := Aside0.mk (blk_below (g := gb101) (o := .cells #[.slice none 0 0, .slice none 0 0] 25 (0, 0)) (by (with_reducible repeat (first | refine blk_drewN ?_ _ | refine blk_drew ?_ | refine blk_alloc ?_ _)); exact BK101.out) hb); have n3_ := Aside0.mk (below_step (by repeat (first | (with_reducible first | exact HB.out | apply below_alloc | apply pw_below_drewN | apply below_drew1 | refine below_set ?_ GE101.out) | exact HB.out)) hb); clear BK101; clear HB; have HO104 := n0_; have HO107 := n1_; have BK101 := n2_; have HB := n3_; clear n0_ n1_ n2_ n3_; (try clear hb); (try clear hb2); (try clear hk); (try clear hi); (try clear ho0); (try clear ho1)) | ((with_reducible refine gate_dst (N := 4) rfl ?_); refine box_event ?hg (N := 4) ?hd (cs := #[.slice none 0 0, .slice none 0 0]) (t := 25) ?hr ?_; (case hd => rfl); (case hg => rfl); (case hr => first | (go_simp; done) | (go_simp; rfl)); intro gb109 hg w6 hbox hb; have n0_ := Aside0.mk (Kd.R_below (by (with_reducible repeat (first | apply Kd.R_alloc | apply Kd.R_drewN | apply Kd.R_drew)); exact HO104.out) hb); have n1_ := Aside0.mk (Kd.S_below (Kd.S_elderB (by (with_reducible repeat (first | apply Kd.S_alloc | apply Kd.S_drewN | apply Kd.S_drew)); exact HO107.out) gb109 (Nat.le_of_eq hg.symm)) hb); have n2_ := Aside0.mk (blk_below (g := gb101) (o := .cells #[.slice none 0 0, .slice none 0 0] 25 (0, 0)) (by (with_reducible repeat (first | refine blk_drewN ?_ _ | refine blk_drew ?_ | refine blk_alloc ?_ _)); exact BK101.out) hb); have n3_ := Aside0.mk (below_step (by repeat (first | (with_reducible first | exact HB.out | apply below_alloc | apply pw_below_drewN | apply below_drew1 | refine below_set ?_ GE101.out) | exact HB.out)) hb); have n4_ := Aside0.mk (hbox); have n5_ := Aside0.mk ((by rw [hg]; exact (below_size (by repeat (first | (with_reducible first | exact HB.out | apply below_alloc | apply pw_below_drewN | apply below_drew1 | refine below_set ?_ GE101.out) | exact HB.out))) : w.heap.size ≤ gb109)); have n6_ := Aside0.mk ((by rw [hg]; exact (below_size (by repeat (first | (with_reducible first | exact HB.out | apply below_alloc | apply pw_below_drewN | apply below_drew1 | refine below_set ?_ GE101.out) | exact HB.out))) : w.heap.size ≤ gb109)); have n7_ := Aside0.mk ((by rw [hg]; exact Nat.ne_of_lt (blk_lt (g := gb101) (o := .cells #[.slice none 0 0, .slice none 0 0] 25 (0, 0)) (by (with_reducible repeat (first | refine blk_drewN ?_ _ | refine blk_drew ?_ | refine blk_alloc ?_ _)); exact BK101.out)) : gb101 ≠ gb109)); have n8_ := Aside0.mk ((by rw [hg]; exact Nat.ne_of_gt (blk_lt (g := gb101) (o := .cells #[.slice none 0 0, .slice none 0 0] 25 (0, 0)) (by (with_reducible repeat (first | refine blk_drewN ?_ _ | refine blk_drew ?_ | refine blk_alloc ?_ _)); exact BK101.out)) : gb109 ≠ gb101)); clear HO104; clear HO107; clear BK101; clear HB; have HO104 := n0_; have HO107 := n1_; have BK101 := n2_; have HB := n3_; have BK109 := n4_; have GW109 := n5_; have GE109 := n6_; have NB101_109 := n7_; have NB109_101 := n8_; clear n0_ n1_ n2_ n3_ n4_ n5_ n6_ n7_ n8_; clear hb hbox hg; obtain ⟨Ao7, co7, eo7⟩ := Kd.R_slice HO104.out; subst eo7; have hnb8 := NB109_101.out; have hnc8 := NB101_109.out; have hcz9_0 : w6.cell? ⟨gb109, 0, none⟩ = some (.slice none 0 0) := (blk_cell BK109.out 0).trans rfl; have hcz9_1 : w6.cell? ⟨gb109, 1, none⟩ = some (.slice none 0 0) := (blk_cell BK109.out 1).trans rfl; have hfz9_0 := blk_frozen BK109.out 0; have hfz9_1 := blk_frozen BK109.out 1; obtain ⟨Ao10, co10, eo10⟩ := Kd.S_slice HO107.out; subst eo10; have hcz11_0 : w6.cell? ⟨gb101, 0, none⟩ = some (.slice none 0 0) := (blk_cell BK101.out 0).trans rfl; have hcz11_1 : w6.cell? ⟨gb101, 1, none⟩ = some (.slice none 0 0) := (blk_cell BK101.out 1).trans rfl; have hfz11_0 := blk_frozen BK101.out 0; have hfz11_1 := blk_frozen BK101.out 1))
    refine bodyPost_ret (results_ct rfl _ _ gb101 25 #[.slice Ao7 t102.length co7, .slice Ao10 t105.length co10] (0, 0) _ rfl (by (with_reducible repeat (first | refine blk_drewN ?_ _ | refine blk_drew ?_ | refine blk_alloc ?_ _)); refine blk_put (cs := #[.slice Ao7 t102.length co7, .slice none 0 0]) ?_ 1 _ rfl; (with_reducible repeat (first | refine blk_drewN ?_ _ | refine blk_drew ?_ | refine blk_alloc ?_ _)); refine blk_put (cs := #[.slice none 0 0, .slice none 0 0]) ?_ 0 _ rfl; (with_reducible repeat (first | refine blk_drewN ?_ _ | refine blk_drew ?_ | refine blk_alloc ?_ _)); refine blk_far ?_ NB101_109.out _; (with_reducible repeat (first | refine blk_drewN ?_ _ | refine blk_drew ?_ | refine blk_alloc ?_ _)); refine blk_far ?_ NB101_109.out _; (with_reducible repeat (first | refine blk_drewN ?_ _ | refine blk_drew ?_ | refine blk_alloc ?_ _)); exact BK101.out) Try.underlying25 rfl (by kernel_rfl)) rfl ?_
    exact ⟨_, _, by first | rfl | (simp [errW_none, errW_some] <;> rfl) | (simp [*, errW_none, errW_some] <;> rfl), by (with_reducible repeat (first | apply Kd.R_alloc | apply Kd.R_drewN | apply Kd.R_drew)); exact Kd.R_mono (Kd.R_far (p := ⟨gb101, 1, none⟩) (Kd.R_far (p := ⟨gb101, 0, none⟩) (Kd.R_far (p := ⟨gb109, 1, none⟩) (Kd.R_far (p := ⟨gb109, 0, none⟩) (Kd.R_types (Kd.R_types HO104.out BK109.out (by decide)) BK101.out (by decide)) (fun _ hk => hk.1.2) (.slice Ao7 t102.length co7)) (fun _ hk => hk.1.2) (.slice Ao10 t105.length co10)) (fun _ hk => hk.2) (.slice Ao7 t102.length co7)) (fun _ hk => hk.2) (.slice Ao10 t105.length co10)) (fun _ hk => hk.1.1.1), by (with_reducible repeat (first | apply Kd.S_alloc | apply Kd.S_drewN | apply Kd.S_drew)); exact Kd.S_mono (Kd.S_far (p := ⟨gb101, 1, none⟩) (Kd.S_far (p := ⟨gb101, 0, none⟩) (Kd.S_far (p := ⟨gb109, 1, none⟩) (Kd.S_far (p := ⟨gb109, 0, none⟩) (Kd.S_mono (Kd.S_mono HO107.out (fun k_ hk => (⟨hk, hk.2⟩ : _ ∧ k_ ≠ gb109))) (fun k_ hk => (⟨hk, hk.1.1.2.2⟩ : _ ∧ k_ ≠ gb101))) (fun _ hk => hk.1.2) (.slice Ao7 t102.length co7)) (fun _ hk => hk.1.2) (.slice Ao10 t105.length co10)) (fun _ hk => hk.2) (.slice Ao7 t102.length co7)) (fun _ hk => hk.2) (.slice Ao10 t105.length co10)) (fun _ hk => ⟨hk.1.1.1.1, hk.1.1.1.2.1⟩), by repeat (first | (with_reducible first | exact HB.out | apply below_alloc | apply pw_below_drewN | apply below_drew1 | refine below_set ?_ GE101.out | refine below_set ?_ GE109.out) | exact HB.out)⟩
  · replace c3 := Bool.eq_false_iff.mpr c3
    subst c3
    have H1 : (some (([] : List Int), ([] : List (List Int)), 4)) = some (r1, r2, r3) := by rw [if_neg (show ¬ (false = true) by decide)] at H; exact H
    clear H
    have H := H1
    clear H1
    simp only [Option.some.injEq, Prod.mk.injEq] at H
    obtain ⟨rfl, rfl, rfl⟩ := H
    go_enter Try.func8, Try.ntmps8
    go_wp2_with (first | ((with_reducible refine gate_dst (N := 9) rfl ?_); refine Kd.event_run (v := .tuple #[.agg #[v103, v106], .bool false]) (w1 := w13) rfl (by go_simp; rw [HLOOK.out]; rfl) ?_) | ((with_reducible refine gate_dst (N := 2) rfl ?_); refine box_event ?hg (N := 2) ?hd (cs := #[.slice none 0 0, .slice none 0 0]) (t := 25) ?hr ?_; (case hd => rfl); (case hg => rfl); (case hr => first | (go_simp; done) | (go_simp; rfl)); intro gb101 hg w12 hbox hb; have n0_ := Aside0.mk (below_step (by repeat (first | (with_reducible first | exact HB.out | apply below_alloc | apply pw_below_drewN | apply below_drew1) | exact HB.out)) hb); have n1_ := Aside0.mk (hbox); have n2_ := Aside0.mk ((by rw [hg]; exact (below_size (by repeat (first | (with_reducible first | exact HB.out | apply below_alloc | apply pw_below_drewN | apply below_drew1) | exact HB.out))) : w.heap.size ≤ gb101)); have n3_ := Aside0.mk ((by rw [hg]; exact (below_size (by repeat (first | (with_reducible first | exact HB.out | apply below_alloc | apply pw_below_drewN | apply below_drew1) | exact HB.out))) : w.heap.size ≤ gb101)); clear HB; have HB := n0_; have BK101 := n1_; have GW101 := n2_; have GE101 := n3_; clear n0_ n1_ n2_ n3_; clear hb hbox hg) | ((with_reducible refine gate_callee (f := 24) rfl ?_); refine goesL_ (some 7) rfl rfl Try.func24 (by kernel_rfl) rfl #[] rfl (by (try simp only [List.map_toArray, List.map_cons, List.map_nil]); first | done | rfl | (simp only [List.length_drop, List.length_take]; rfl)) ?_; (with_reducible refine (impl_named.calls _).mono ?_); rintro e w13 ⟨b_, rfl, hm_, hb⟩; refine ⟨_, rfl, ?_⟩; obtain ⟨v103, v106, hl_, ho0, ho1⟩ := named_look a0 A2.out (by unfold maxLen; omega) hm_; have HLOOK := Aside0.mk hl_; clear hl_ hm_; have n0_ := Aside0.mk (Kd.R_lower (Kd.R_newM (M := fun k_ => (w.heap.size ≤ k_)) (Kd.R_mono (ok' := fun k_ => True) ho0 (fun _ hk_ => trivial)) (below_size (by repeat (first | (with_reducible first | exact HB.out | apply below_alloc | apply pw_below_drewN | apply below_drew1 | refine below_set ?_ GE101.out) | exact HB.out))) (fun k_ h_ => h_)) (below_size (by repeat (first | (with_reducible first | exact HB.out | apply below_alloc | apply pw_below_drewN | apply below_drew1 | refine below_set ?_ GE101.out) | exact HB.out)))); have n1_ := Aside0.mk (Kd.S_lower (Kd.S_mono (ok' := fun k_ => (w.heap.size ≤ k_) ∧ some k_ ≠ (v103 : Value).ownBlock ∧ k_ ≠ gb101) ho1 (fun k_ hk_ => ⟨(Nat.le_trans (below_size (by repeat (first | (with_reducible first | exact HB.out | apply below_alloc | apply pw_below_drewN | apply below_drew1 | refine below_set ?_ GE101.out) | exact HB.out))) hk_.1), hk_.2, (Kd.freshB (g := gb101) (o := .cells #[.slice none 0 0, .slice none 0 0] 25 (0, 0)) (by (with_reducible repeat (first | refine blk_drewN ?_ _ | refine blk_drew ?_ | refine blk_alloc ?_ _)); exact BK101.out) k_ hk_.1)⟩)) (below_size (by repeat (first | (with_reducible first | exact HB.out | apply below_alloc | apply pw_below_drewN | apply below_drew1 | refine below_set ?_ GE101.out) | exact HB.out)))); have n2_ := Aside0.mk (blk_below (g := gb101) (o := .cells #[.slice none 0 0, .slice none 0 0] 25 (0, 0)) (by (with_reducible repeat (first | refine blk_drewN ?_ _ | refine blk_drew ?_ | refine blk_alloc ?_ _)); exact BK101.out) hb); have n3_ := Aside0.mk (below_step (by repeat (first | (with_reducible first | exact HB.out | apply below_alloc | apply pw_below_drewN | apply below_drew1 | refine below_set ?_ GE101.out) | exact HB.out)) hb); clear BK101; clear HB; have HO104 := n0_; have HO107 := n1_; have BK101 := n2_; have HB := n3_; clear n0_ n1_ n2_ n3_; (try clear hb); (try clear hb2); (try clear hk); (try clear hi); (try clear ho0); (try clear ho1)) | ((with_reducible refine gate_dst (N := 4) rfl ?_); refine box_event ?hg (N := 4) ?hd (cs := #[.slice none 0 0, .slice none 0 0]) (t := 25) ?hr ?_; (case hd => rfl); (case hg => rfl); (case hr => first | (go_simp; done) | (go_simp; rfl)); intro gb109 hg w14 hbox hb; have n0_ := Aside0.mk (Kd.R_below (by (with_reducible repeat (first | apply Kd.R_alloc | apply Kd.R_drewN | apply Kd.R_drew)); exact HO104.out) hb); have n1_ := Aside0.mk (Kd.S_below (Kd.S_elderB (by (with_reducible repeat (first | apply Kd.S_alloc | apply Kd.S_drewN | apply Kd.S_drew)); exact HO107.out) gb109 (Nat.le_of_eq hg.symm)) hb); have n2_ := Aside0.mk (blk_below (g := gb101) (o := .cells #[.slice none 0 0, .slice none 0 0] 25 (0, 0)) (by (with_reducible repeat (first | refine blk_drewN ?_ _ | refine blk_drew ?_ | refine blk_alloc ?_ _)); exact BK101.out) hb); have n3_ := Aside0.mk (below_step (by repeat (first | (with_reducible first | exact HB.out | apply below_alloc | apply pw_below_drewN | apply below_drew1 | refine below_set ?_ GE101.out) | exact HB.out)) hb); have n4_ := Aside0.mk (hbox); have n5_ := Aside0.mk ((by rw [hg]; exact (below_size (by repeat (first | (with_reducible first | exact HB.out | apply below_alloc | apply pw_below_drewN | apply below_drew1 | refine below_set ?_ GE101.out) | exact HB.out))) : w.heap.size ≤ gb109)); have n6_ := Aside0.mk ((by rw [hg]; exact (below_size (by repeat (first | (with_reducible first | exact HB.out | apply below_alloc | apply pw_below_drewN | apply below_drew1 | refine below_set ?_ GE101.out) | exact HB.out))) : w.heap.size ≤ gb109)); have n7_ := Aside0.mk ((by rw [hg]; exact Nat.ne_of_lt (blk_lt (g := gb101) (o := .cells #[.slice none 0 0, .slice none 0 0] 25 (0, 0)) (by (with_reducible repeat (first | refine blk_drewN ?_ _ | refine blk_drew ?_ | refine blk_alloc ?_ _)); exact BK101.out)) : gb101 ≠ gb109)); have n8_ := Aside0.mk ((by rw [hg]; exact Nat.ne_of_gt (blk_lt (g := gb101) (o := .cells #[.slice none 0 0, .slice none 0 0] 25 (0, 0)) (by (with_reducible repeat (first | refine blk_drewN ?_ _ | refine blk_drew ?_ | refine blk_alloc ?_ _)); exact BK101.out)) : gb109 ≠ gb101)); clear HO104; clear HO107; clear BK101; clear HB; have HO104 := n0_; have HO107 := n1_; have BK101 := n2_; have HB := n3_; have BK109 := n4_; have GW109 := n5_; have GE109 := n6_; have NB101_109 := n7_; have NB109_101 := n8_; clear n0_ n1_ n2_ n3_ n4_ n5_ n6_ n7_ n8_; clear hb hbox hg; obtain ⟨Ao15, co15, eo15⟩ := Kd.R_slice HO104.out; subst eo15; have hnb16 := NB109_101.out; have hnc16 := NB101_109.out; have hcz17_0 : w14.cell? ⟨gb109, 0, none⟩ = some (.slice none 0 0) := (blk_cell BK109.out 0).trans rfl; have hcz17_1 : w14.cell? ⟨gb109, 1, none⟩ = some (.slice none 0 0) := (blk_cell BK109.out 1).trans rfl; have hfz17_0 := blk_frozen BK109.out 0; have hfz17_1 := blk_frozen BK109.out 1; obtain ⟨Ao18, co18, eo18⟩ := Kd.S_slice HO107.out; subst eo18; have hcz19_0 : w14.cell? ⟨gb101, 0, none⟩ = some (.slice none 0 0) := (blk_cell BK101.out 0).trans rfl; have hcz19_1 : w14.cell? ⟨gb101, 1, none⟩ = some (.slice none 0 0) := (blk_cell BK101.out 1).trans rfl; have hfz19_0 := blk_frozen BK101.out 0; have hfz19_1 := blk_frozen BK101.out 1))
    refine bodyPost_ret (results_ct rfl _ _ gb101 25 #[.slice none 0 0, .slice none 0 0] (0, 0) _ rfl (by (with_reducible repeat (first | refine blk_drewN ?_ _ | refine blk_drew ?_ | refine blk_alloc ?_ _)); refine blk_put (cs := #[.slice none 0 0, .slice none 0 0]) ?_ 1 _ rfl; (with_reducible repeat (first | refine blk_drewN ?_ _ | refine blk_drew ?_ | refine blk_alloc ?_ _)); refine blk_put (cs := #[.slice none 0 0, .slice none 0 0]) ?_ 0 _ rfl; (with_reducible repeat (first | refine blk_drewN ?_ _ | refine blk_drew ?_ | refine blk_alloc ?_ _)); refine blk_far ?_ NB101_109.out _; (with_reducible repeat (first | refine blk_drewN ?_ _ | refine blk_drew ?_ | refine blk_alloc ?_ _)); refine blk_far ?_ NB101_109.out _; (with_reducible repeat (first | refine blk_drewN ?_ _ | refine blk_drew ?_ | refine blk_alloc ?_ _)); exact BK101.out) Try.underlying25 rfl (by kernel_rfl)) rfl ?_
    exact ⟨_, _, by first | rfl | (simp [errW_none, errW_some] <;> rfl) | (simp [*, errW_none, errW_some] <;> rfl), by first | exact Kd.R_nil _ _ _ _ _ | exact Kd.S_nil _ _ _ _ _ | exact Kd.V_nil _ _ _ _ _ | exact Kd.Q_nil _ _ _ _ _ | exact Kd.S_nil _ _ _ _ _, by first | exact Kd.S_nil _ _ _ _ _ | exact Kd.S_nil _ _ _ _ _ | exact Kd.V_nil _ _ _ _ _ | exact Kd.Q_nil _ _ _ _ _ | exact Kd.R_nil _ _ _ _ _, by repeat (first | (with_reducible first | exact HB.out | apply below_alloc | apply pw_below_drewN | apply below_drew1 | refine below_set ?_ GE101.out | refine below_set ?_ GE109.out) | exact HB.out)⟩
theorem impl_NamedWeb.calls (a0 : ByteArray) (r1 : List Int) (r2 : List (List Int)) (r3 : Int) (w : World) (hz : a0.size ≤ 1048576) (h : impl_NamedWeb.f a0 = some (r1, r2, r3)) :
    Calls Try.prog 8 #[.string a0] w fun e w' => ∃ v0_ v1_ : Value, e = .returned (.tuple #[.agg #[v0_, v1_], .int .i64 r3]) ∧ Kd.R (Kd.int .i64) 2 w' w.heap.size (fun _ => True) v0_ r1 ∧ Kd.S (Kd.slice 2 (Kd.int .i64)) 22 w' w.heap.size (fun k_ => some k_ ≠ (v0_ : Value).ownBlock) v1_ r2 ∧ Below w.heap.size w w' :=
  (impl_NamedWeb.calls0 a0 r1 r2 r3 w hz h).mono (by rintro e w1 ⟨v0, v1, rfl, h0, h1, hb⟩; exact ⟨v0, v1, rfl, Kd.R_mono h0 (fun _ _ => trivial), Kd.S_mono h1 (fun _ hk => hk.2), hb⟩)

/-! ### laws_FnExactNamedWeb: function 3, by hand -/
def laws_FnExactNamedWeb.Told (t0 : ByteArray) (k : Nat) (c m : Int) (g0 : List Int) (g1 : List (List Int)) (p0 : List Int) (p1 : List (List Int)) : Prop :=
  spec_NamedWeb.f t0 = some (g0, g1, c) ∧ impl_NamedWeb.f t0 = some (g0, g1, c) ∧ laws_eqWeb.f k g0 g1 g0 g1 = some true ∧ laws_markWeb.f k g0 g1 1 = some (m, p0, p1) ∧ laws_heldWeb.f k p0 p1 1 = some m ∧ 0 ≤ m
set_option maxHeartbeats 16000000 in
set_option maxRecDepth 100000 in
theorem laws_FnExactNamedWeb.one (t0 : ByteArray) (w : World) (hz0 : t0.size ≤ 1048576) (k : Nat) (c m : Int) (g0 : List Int) (g1 : List (List Int)) (p0 : List Int) (p1 : List (List Int)) (h : laws_FnExactNamedWeb.Told t0 k c m g0 g1 p0 p1) :
    Calls Try.prog 3 #[.string t0] w fun e w' => e = .returned (.bool true) ∧ Below w.heap.size w w' := by
  have huB := Try.underlying25
  obtain ⟨h_FS, h_FI, h_FE, h_FM, h_FH, hb_0⟩ := h
  have FS := Aside0.mk h_FS
  clear h_FS
  have FI := Aside0.mk h_FI
  clear h_FI
  have FE := Aside0.mk h_FE
  clear h_FE
  have FM := Aside0.mk h_FM
  clear h_FM
  have FH := Aside0.mk h_FH
  clear h_FH
  have d3 : decide (m < 0) = false := decide_eq_false (by omega)
  have da0 : decide (1048576 < t0.size) = false := decide_eq_false (by omega)
  have db0 : decide ((1048576 : Int) < (t0.size : Int)) = false := decide_eq_false (by omega)
  clear hb_0
  clear hz0
  go_enter Try.func3, Try.ntmps3
  have BQ := Aside0.mk (Below.refl w.heap.size w)
  go_wp2_with fail
  refine (spec_NamedWeb.calls t0 g0 g1 c _  FS.out).mono ?_
  rintro e w1 ⟨u0, u1, rfl, o0, o1, hb⟩
  have Rs_0 := Aside0.mk o0
  have Rs_1 := Aside0.mk o1
  have Bs := Aside0.mk hb
  clear o0 o1 hb
  obtain ⟨As_0, cs_0, rfl⟩ := Kd.R_slice Rs_0.out
  obtain ⟨As_1, cs_1, rfl⟩ := Kd.N_slice Rs_1.out
  have n_ := Aside0.mk (below_step BQ.out Bs.out)
  clear BQ
  have BQ := n_
  clear n_
  have BW0 := BQ
  clear BQ
  have K0_0 := Aside0.mk (Kd.R_reads' Rs_0.out).2.2
  have LE0 := Aside0.mk (Kd.R_reads' Rs_0.out).2.1
  have K0_1 := Aside0.mk (Kd.N_reads' Rs_1.out).2.2
  have LE1 := Aside0.mk (Kd.N_reads' Rs_1.out).2.1
  clear Rs_0
  clear Rs_1
  have zWa0_0 : (w1.alloc (.cells #[.slice As_0 g0.length cs_0, .slice As_1 g1.length cs_1] 25)).cell? ⟨w1.heap.size, 0, none⟩ = some (.slice As_0 g0.length cs_0) := (blk_cell (blk_new _ _) 0).trans rfl
  have zWa0_1 : (w1.alloc (.cells #[.slice As_0 g0.length cs_0, .slice As_1 g1.length cs_1] 25)).cell? ⟨w1.heap.size, 1, none⟩ = some (.slice As_1 g1.length cs_1) := (blk_cell (blk_new _ _) 1).trans rfl
  go_wp2_with fail
  obtain ⟨wr, hwr_⟩ : ∃ x_ : World, w1.alloc (.cells #[.slice As_0 g0.length cs_0, .slice As_1 g1.length cs_1] 25) = x_ := ⟨_, rfl⟩
  rw [hwr_]
  have Bwr : Aside0 (Below w1.heap.size w1 wr) := ⟨by rw [← hwr_]; exact below_alloc (Below.refl _ _) _⟩
  have BKW : Aside0 (wr.heap[w1.heap.size]? = some (.cells #[.slice As_0 g0.length cs_0, .slice As_1 g1.length cs_1] 25 (0, 0))) := ⟨by rw [← hwr_]; exact blk_new _ _⟩
  clear hwr_
  have sWwr := blk_lt BKW.out
  have BW := Aside0.mk (below_step BW0.out Bwr.out)
  have K0 := Aside0.mk (Kd.C_below K0_0.out Bwr.out)
  clear K0_0
  have K1 := Aside0.mk (Kd.C_below K0_1.out Bwr.out)
  clear K0_1
  have BR := Aside0.mk (Below.refl wr.heap.size wr)
  have zx := BR.out.size
  refine (impl_NamedWeb.calls t0 g0 g1 c _  (by have h_ := of_decide_eq_false da0; omega) FI.out).mono ?_
  rintro e w2 ⟨u0, u1, rfl, o0, o1, hb⟩
  clear zWa0_0 zWa0_1
  have Rg_0 := Aside0.mk o0
  have Rg_1 := Aside0.mk o1
  have Bg := Aside0.mk hb
  clear o0 o1 hb
  obtain ⟨Ag_0, cg_0, rfl⟩ := Kd.R_slice Rg_0.out
  obtain ⟨Ag_1, cg_1, rfl⟩ := Kd.S_slice Rg_1.out
  have n_ := Aside0.mk (below_step BR.out Bg.out)
  clear BR
  have BR := n_
  clear n_
  have n_ := Aside0.mk (blk_below BKW.out Bg.out)
  clear BKW
  have BKW := n_
  clear n_
  have n_ := Aside0.mk (Kd.R_mono (ok' := fun k_ => (wr.heap.size ≤ k_ ∧ k_ < w2.heap.size) ∧ (True)) (Kd.R_bound Rg_0.out) (fun k_ h_ => ⟨⟨h_.2.1, h_.2.2.1⟩, h_.1⟩))
  clear Rg_0
  have Rg_0 := n_
  clear n_
  have n_ := Aside0.mk (Kd.S_mono (ok' := fun k_ => (wr.heap.size ≤ k_ ∧ k_ < w2.heap.size) ∧ (some k_ ≠ (.slice Ag_0 g0.length cg_0 : Value).ownBlock)) (Kd.S_bound Rg_1.out) (fun k_ h_ => ⟨⟨h_.2.1, h_.2.2.1⟩, h_.1⟩))
  clear Rg_1
  have Rg_1 := n_
  clear n_
  have zg := Bg.out.size
  have zW_0 : w2.cell? ⟨w1.heap.size, 0, none⟩ = some (.slice As_0 g0.length cs_0) := (blk_cell (BKW.out) 0).trans rfl
  have zW_1 : w2.cell? ⟨w1.heap.size, 1, none⟩ = some (.slice As_1 g1.length cs_1) := (blk_cell (BKW.out) 1).trans rfl
  have zWa0_0 : (w2.alloc (.cells #[.slice Ag_0 g0.length cg_0, .slice Ag_1 g1.length cg_1] 25)).cell? ⟨w1.heap.size, 0, none⟩ = some (.slice As_0 g0.length cs_0) := (blk_cell (blk_alloc BKW.out _) 0).trans rfl
  have zWa0_1 : (w2.alloc (.cells #[.slice Ag_0 g0.length cg_0, .slice Ag_1 g1.length cg_1] 25)).cell? ⟨w1.heap.size, 1, none⟩ = some (.slice As_1 g1.length cs_1) := (blk_cell (blk_alloc BKW.out _) 1).trans rfl
  have zGa0_0 : (w2.alloc (.cells #[.slice Ag_0 g0.length cg_0, .slice Ag_1 g1.length cg_1] 25)).cell? ⟨w2.heap.size, 0, none⟩ = some (.slice Ag_0 g0.length cg_0) := (blk_cell (blk_new _ _) 0).trans rfl
  have zGa0_1 : (w2.alloc (.cells #[.slice Ag_0 g0.length cg_0, .slice Ag_1 g1.length cg_1] 25)).cell? ⟨w2.heap.size, 1, none⟩ = some (.slice Ag_1 g1.length cg_1) := (blk_cell (blk_new _ _) 1).trans rfl
  go_wp2_with fail
  obtain ⟨wg, hwg_⟩ : ∃ x_ : World, w2.alloc (.cells #[.slice Ag_0 g0.length cg_0, .slice Ag_1 g1.length cg_1] 25) = x_ := ⟨_, rfl⟩
  rw [hwg_]
  have Bwg : Aside0 (Below w2.heap.size w2 wg) := ⟨by rw [← hwg_]; exact below_alloc (Below.refl _ _) _⟩
  have BKG : Aside0 (wg.heap[w2.heap.size]? = some (.cells #[.slice Ag_0 g0.length cg_0, .slice Ag_1 g1.length cg_1] 25 (0, 0))) := ⟨by rw [← hwg_]; exact blk_new _ _⟩
  clear hwg_
  have n_ := Aside0.mk (blk_below BKW.out Bwg.out)
  clear BKW
  have BKW := n_
  clear n_
  have sWwg := blk_lt BKW.out
  have sGwg := blk_lt BKG.out
  have n_ := Aside0.mk (below_step BR.out Bwg.out)
  clear BR
  have BR := n_
  clear n_
  have n_ := Aside0.mk (Kd.R_below Rg_0.out Bwg.out)
  clear Rg_0
  have Rg_0 := n_
  clear n_
  have n_ := Aside0.mk (Kd.S_below Rg_1.out Bwg.out)
  clear Rg_1
  have Rg_1 := n_
  clear n_
  refine (laws_eqWeb.calls k _ _ g0 _ _ g1 _ _ g0 _ _ g1 true _ (Kd.R_reads' Rg_0.out).2.2 (Kd.R_reads' Rg_0.out).2.1 (Kd.S_reads' Rg_1.out).2.2 (Kd.S_reads' Rg_1.out).2.1 (Kd.C_below K0.out BR.out) LE0.out (Kd.C_below K1.out BR.out) LE1.out FE.out).mono ?_
  rintro e w3 ⟨rfl, hb⟩
  clear zW_0 zW_1 zWa0_0 zWa0_1 zGa0_0 zGa0_1
  have Be3 := Aside0.mk (hb)
  clear hb
  have n_ := Aside0.mk (below_step BR.out Be3.out)
  clear BR
  have BR := n_
  clear n_
  have n_ := Aside0.mk (Kd.R_below Rg_0.out Be3.out)
  clear Rg_0
  have Rg_0 := n_
  clear n_
  have n_ := Aside0.mk (Kd.S_below Rg_1.out Be3.out)
  clear Rg_1
  have Rg_1 := n_
  clear n_
  have n_ := Aside0.mk (blk_below BKW.out Be3.out)
  clear BKW
  have BKW := n_
  clear n_
  have n_ := Aside0.mk (blk_below BKG.out Be3.out)
  clear BKG
  have BKG := n_
  clear n_
  have n_ := Aside0.mk (Kd.R_lower Rg_0.out zx)
  clear Rg_0
  have Rg_0 := n_
  clear n_
  have n_ := Aside0.mk (Kd.S_lower Rg_1.out zx)
  clear Rg_1
  have Rg_1 := n_
  clear n_
  have zW_0 : w3.cell? ⟨w1.heap.size, 0, none⟩ = some (.slice As_0 g0.length cs_0) := (blk_cell (BKW.out) 0).trans rfl
  have zW_1 : w3.cell? ⟨w1.heap.size, 1, none⟩ = some (.slice As_1 g1.length cs_1) := (blk_cell (BKW.out) 1).trans rfl
  have zG_0 : w3.cell? ⟨w2.heap.size, 0, none⟩ = some (.slice Ag_0 g0.length cg_0) := (blk_cell (BKG.out) 0).trans rfl
  have zG_1 : w3.cell? ⟨w2.heap.size, 1, none⟩ = some (.slice Ag_1 g1.length cg_1) := (blk_cell (BKG.out) 1).trans rfl
  go_wp2_with fail
  refine (laws_markWeb.calls k (fun k_ => some k_ = (.slice Ag_0 g0.length cg_0 : Value).ownBlock) _ _ _ g0 g1 1 m p0 p1 wr _ BR.out (Kd.R_tight rfl Rg_0.out) Rg_1.out (fun k_ h1_ h2_ => h2_.2 h1_) FM.out).mono ?_
  rintro e w4 ⟨rfl, o0, o1, hb, hk⟩
  clear zW_0 zW_1 zG_0 zG_1
  have BRn := Aside0.mk hb
  clear hb BR
  have BR := BRn
  clear BRn
  have Rm_0 := Aside0.mk o0
  have Rm_1 := Aside0.mk o1
  clear o0 o1
  have n_ := Aside0.mk (blk_kept BKW.out hk (fun hs_ => by rcases hs_ with hs_ | hs_; (have := (Rg_0.out.1 _ hs_.symm).1; omega); (have := hs_.1; omega)))
  clear BKW
  have BKW := n_
  clear n_
  have n_ := Aside0.mk (blk_kept BKG.out hk (fun hs_ => by rcases hs_ with hs_ | hs_; (have := (Rg_0.out.1 _ hs_.symm).1; omega); (have := hs_.1; omega)))
  clear BKG
  have BKG := n_
  clear n_
  clear hk
  clear Rg_0
  clear Rg_1
  have zW_0 : w4.cell? ⟨w1.heap.size, 0, none⟩ = some (.slice As_0 g0.length cs_0) := (blk_cell (BKW.out) 0).trans rfl
  have zW_1 : w4.cell? ⟨w1.heap.size, 1, none⟩ = some (.slice As_1 g1.length cs_1) := (blk_cell (BKW.out) 1).trans rfl
  have zG_0 : w4.cell? ⟨w2.heap.size, 0, none⟩ = some (.slice Ag_0 g0.length cg_0) := (blk_cell (BKG.out) 0).trans rfl
  have zG_1 : w4.cell? ⟨w2.heap.size, 1, none⟩ = some (.slice Ag_1 g1.length cg_1) := (blk_cell (BKG.out) 1).trans rfl
  go_wp2_with fail
  have e0_ := (Kd.R_reads' Rm_0.out).1
  have e1_ := (Kd.S_reads' Rm_1.out).1
  have hh_ := laws_heldWeb.calls k _ _ p0 _ _ p1 1 m _ (Kd.R_reads' Rm_0.out).2.2 (by rw [← e0_]; exact (Kd.R_reads' Rm_0.out).2.1) (Kd.S_reads' Rm_1.out).2.2 (by rw [← e1_]; exact (Kd.S_reads' Rm_1.out).2.1) FH.out
  rw [← e0_, ← e1_] at hh_
  clear e0_ e1_
  refine hh_.mono ?_
  clear hh_
  rintro e w5 ⟨rfl, hb⟩
  clear zW_0 zW_1 zG_0 zG_1
  have Bh5 := Aside0.mk (hb)
  clear hb
  have n_ := Aside0.mk (below_step BR.out Bh5.out)
  clear BR
  have BR := n_
  clear n_
  have n_ := Aside0.mk (Kd.R_below Rm_0.out Bh5.out)
  clear Rm_0
  have Rm_0 := n_
  clear n_
  have n_ := Aside0.mk (Kd.S_below Rm_1.out Bh5.out)
  clear Rm_1
  have Rm_1 := n_
  clear n_
  have n_ := Aside0.mk (blk_below BKW.out Bh5.out)
  clear BKW
  have BKW := n_
  clear n_
  have n_ := Aside0.mk (blk_below BKG.out Bh5.out)
  clear BKG
  have BKG := n_
  clear n_
  have zW_0 : w5.cell? ⟨w1.heap.size, 0, none⟩ = some (.slice As_0 g0.length cs_0) := (blk_cell (BKW.out) 0).trans rfl
  have zW_1 : w5.cell? ⟨w1.heap.size, 1, none⟩ = some (.slice As_1 g1.length cs_1) := (blk_cell (BKW.out) 1).trans rfl
  have zG_0 : w5.cell? ⟨w2.heap.size, 0, none⟩ = some (.slice Ag_0 g0.length cg_0) := (blk_cell (BKG.out) 0).trans rfl
  have zG_1 : w5.cell? ⟨w2.heap.size, 1, none⟩ = some (.slice Ag_1 g1.length cg_1) := (blk_cell (BKG.out) 1).trans rfl
  go_wp2_with fail
  refine (impl_NamedWeb.calls t0 g0 g1 c _  (by have h_ := of_decide_eq_false da0; omega) FI.out).mono ?_
  rintro e w6 ⟨u0, u1, rfl, o0, o1, hb⟩
  clear zW_0 zW_1 zG_0 zG_1
  have Ry_0 := Aside0.mk o0
  have Ry_1 := Aside0.mk o1
  have By := Aside0.mk hb
  clear o0 o1 hb
  obtain ⟨Ay_0, cy_0, rfl⟩ := Kd.R_slice Ry_0.out
  obtain ⟨Ay_1, cy_1, rfl⟩ := Kd.S_slice Ry_1.out
  have n_ := Aside0.mk (below_step BR.out By.out)
  clear BR
  have BR := n_
  clear n_
  have n_ := Aside0.mk (Kd.R_below Rm_0.out By.out)
  clear Rm_0
  have Rm_0 := n_
  clear n_
  have n_ := Aside0.mk (Kd.S_below Rm_1.out By.out)
  clear Rm_1
  have Rm_1 := n_
  clear n_
  have n_ := Aside0.mk (blk_below BKW.out By.out)
  clear BKW
  have BKW := n_
  clear n_
  have n_ := Aside0.mk (blk_below BKG.out By.out)
  clear BKG
  have BKG := n_
  clear n_
  have zW_0 : w6.cell? ⟨w1.heap.size, 0, none⟩ = some (.slice As_0 g0.length cs_0) := (blk_cell (BKW.out) 0).trans rfl
  have zW_1 : w6.cell? ⟨w1.heap.size, 1, none⟩ = some (.slice As_1 g1.length cs_1) := (blk_cell (BKW.out) 1).trans rfl
  have zG_0 : w6.cell? ⟨w2.heap.size, 0, none⟩ = some (.slice Ag_0 g0.length cg_0) := (blk_cell (BKG.out) 0).trans rfl
  have zG_1 : w6.cell? ⟨w2.heap.size, 1, none⟩ = some (.slice Ag_1 g1.length cg_1) := (blk_cell (BKG.out) 1).trans rfl
  have zWa0_0 : (w6.alloc (.cells #[.slice Ay_0 g0.length cy_0, .slice Ay_1 g1.length cy_1] 25)).cell? ⟨w1.heap.size, 0, none⟩ = some (.slice As_0 g0.length cs_0) := (blk_cell (blk_alloc BKW.out _) 0).trans rfl
  have zWa0_1 : (w6.alloc (.cells #[.slice Ay_0 g0.length cy_0, .slice Ay_1 g1.length cy_1] 25)).cell? ⟨w1.heap.size, 1, none⟩ = some (.slice As_1 g1.length cs_1) := (blk_cell (blk_alloc BKW.out _) 1).trans rfl
  have zGa0_0 : (w6.alloc (.cells #[.slice Ay_0 g0.length cy_0, .slice Ay_1 g1.length cy_1] 25)).cell? ⟨w2.heap.size, 0, none⟩ = some (.slice Ag_0 g0.length cg_0) := (blk_cell (blk_alloc BKG.out _) 0).trans rfl
  have zGa0_1 : (w6.alloc (.cells #[.slice Ay_0 g0.length cy_0, .slice Ay_1 g1.length cy_1] 25)).cell? ⟨w2.heap.size, 1, none⟩ = some (.slice Ag_1 g1.length cg_1) := (blk_cell (blk_alloc BKG.out _) 1).trans rfl
  have zYa0_0 : (w6.alloc (.cells #[.slice Ay_0 g0.length cy_0, .slice Ay_1 g1.length cy_1] 25)).cell? ⟨w6.heap.size, 0, none⟩ = some (.slice Ay_0 g0.length cy_0) := (blk_cell (blk_new _ _) 0).trans rfl
  have zYa0_1 : (w6.alloc (.cells #[.slice Ay_0 g0.length cy_0, .slice Ay_1 g1.length cy_1] 25)).cell? ⟨w6.heap.size, 1, none⟩ = some (.slice Ay_1 g1.length cy_1) := (blk_cell (blk_new _ _) 1).trans rfl
  go_wp2_with fail
  obtain ⟨wy, hwy_⟩ : ∃ x_ : World, w6.alloc (.cells #[.slice Ay_0 g0.length cy_0, .slice Ay_1 g1.length cy_1] 25) = x_ := ⟨_, rfl⟩
  rw [hwy_]
  have Bwy : Aside0 (Below w6.heap.size w6 wy) := ⟨by rw [← hwy_]; exact below_alloc (Below.refl _ _) _⟩
  have BKY : Aside0 (wy.heap[w6.heap.size]? = some (.cells #[.slice Ay_0 g0.length cy_0, .slice Ay_1 g1.length cy_1] 25 (0, 0))) := ⟨by rw [← hwy_]; exact blk_new _ _⟩
  clear hwy_
  have n_ := Aside0.mk (blk_below BKW.out Bwy.out)
  clear BKW
  have BKW := n_
  clear n_
  have n_ := Aside0.mk (blk_below BKG.out Bwy.out)
  clear BKG
  have BKG := n_
  clear n_
  have sWwy := blk_lt BKW.out
  have sGwy := blk_lt BKG.out
  have sYwy := blk_lt BKY.out
  have n_ := Aside0.mk (below_step BR.out Bwy.out)
  clear BR
  have BR := n_
  clear n_
  have n_ := Aside0.mk (Kd.R_below Rm_0.out Bwy.out)
  clear Rm_0
  have Rm_0 := n_
  clear n_
  have n_ := Aside0.mk (Kd.S_below Rm_1.out Bwy.out)
  clear Rm_1
  have Rm_1 := n_
  clear n_
  have n_ := Aside0.mk (Kd.R_below Ry_0.out Bwy.out)
  clear Ry_0
  have Ry_0 := n_
  clear n_
  have n_ := Aside0.mk (Kd.S_below Ry_1.out Bwy.out)
  clear Ry_1
  have Ry_1 := n_
  clear n_
  refine (laws_eqWeb.calls k _ _ g0 _ _ g1 _ _ g0 _ _ g1 true _ (Kd.R_reads' Ry_0.out).2.2 (Kd.R_reads' Ry_0.out).2.1 (Kd.S_reads' Ry_1.out).2.2 (Kd.S_reads' Ry_1.out).2.1 (Kd.C_below K0.out BR.out) LE0.out (Kd.C_below K1.out BR.out) LE1.out FE.out).mono ?_
  rintro e w7 ⟨rfl, hb⟩
  clear zW_0 zW_1 zG_0 zG_1 zWa0_0 zWa0_1 zGa0_0 zGa0_1 zYa0_0 zYa0_1
  have Be7 := Aside0.mk (hb)
  clear hb
  have n_ := Aside0.mk (below_step BR.out Be7.out)
  clear BR
  have BR := n_
  clear n_
  have n_ := Aside0.mk (Kd.R_below Rm_0.out Be7.out)
  clear Rm_0
  have Rm_0 := n_
  clear n_
  have n_ := Aside0.mk (Kd.S_below Rm_1.out Be7.out)
  clear Rm_1
  have Rm_1 := n_
  clear n_
  have n_ := Aside0.mk (Kd.R_below Ry_0.out Be7.out)
  clear Ry_0
  have Ry_0 := n_
  clear n_
  have n_ := Aside0.mk (Kd.S_below Ry_1.out Be7.out)
  clear Ry_1
  have Ry_1 := n_
  clear n_
  have n_ := Aside0.mk (blk_below BKW.out Be7.out)
  clear BKW
  have BKW := n_
  clear n_
  have n_ := Aside0.mk (blk_below BKG.out Be7.out)
  clear BKG
  have BKG := n_
  clear n_
  have n_ := Aside0.mk (blk_below BKY.out Be7.out)
  clear BKY
  have BKY := n_
  clear n_
  clear Ry_0
  clear Ry_1
  have zW_0 : w7.cell? ⟨w1.heap.size, 0, none⟩ = some (.slice As_0 g0.length cs_0) := (blk_cell (BKW.out) 0).trans rfl
  have zW_1 : w7.cell? ⟨w1.heap.size, 1, none⟩ = some (.slice As_1 g1.length cs_1) := (blk_cell (BKW.out) 1).trans rfl
  have zG_0 : w7.cell? ⟨w2.heap.size, 0, none⟩ = some (.slice Ag_0 g0.length cg_0) := (blk_cell (BKG.out) 0).trans rfl
  have zG_1 : w7.cell? ⟨w2.heap.size, 1, none⟩ = some (.slice Ag_1 g1.length cg_1) := (blk_cell (BKG.out) 1).trans rfl
  have zY_0 : w7.cell? ⟨w6.heap.size, 0, none⟩ = some (.slice Ay_0 g0.length cy_0) := (blk_cell (BKY.out) 0).trans rfl
  have zY_1 : w7.cell? ⟨w6.heap.size, 1, none⟩ = some (.slice Ay_1 g1.length cy_1) := (blk_cell (BKY.out) 1).trans rfl
  go_wp2_with fail
  have e0_ := (Kd.R_reads' Rm_0.out).1
  have e1_ := (Kd.S_reads' Rm_1.out).1
  have hh_ := laws_heldWeb.calls k _ _ p0 _ _ p1 1 m _ (Kd.R_reads' Rm_0.out).2.2 (by rw [← e0_]; exact (Kd.R_reads' Rm_0.out).2.1) (Kd.S_reads' Rm_1.out).2.2 (by rw [← e1_]; exact (Kd.S_reads' Rm_1.out).2.1) FH.out
  rw [← e0_, ← e1_] at hh_
  clear e0_ e1_
  refine hh_.mono ?_
  clear hh_
  rintro e w8 ⟨rfl, hb⟩
  clear zW_0 zW_1 zG_0 zG_1 zY_0 zY_1
  have Bh8 := Aside0.mk (hb)
  clear hb
  have n_ := Aside0.mk (below_step BR.out Bh8.out)
  clear BR
  have BR := n_
  clear n_
  have n_ := Aside0.mk (Kd.R_below Rm_0.out Bh8.out)
  clear Rm_0
  have Rm_0 := n_
  clear n_
  have n_ := Aside0.mk (Kd.S_below Rm_1.out Bh8.out)
  clear Rm_1
  have Rm_1 := n_
  clear n_
  have n_ := Aside0.mk (blk_below BKW.out Bh8.out)
  clear BKW
  have BKW := n_
  clear n_
  have n_ := Aside0.mk (blk_below BKG.out Bh8.out)
  clear BKG
  have BKG := n_
  clear n_
  have n_ := Aside0.mk (blk_below BKY.out Bh8.out)
  clear BKY
  have BKY := n_
  clear n_
  go_wp2
  go_ret
  exact ⟨rfl, (below_then BW.out BW.out.size BR.out)⟩
def laws_FnExactNamedWeb.Pure : Prop := ∀ (t0 : ByteArray), t0.size ≤ 1048576 → ∃ k c m g0 g1 p0 p1, laws_FnExactNamedWeb.Told t0 k c m g0 g1 p0 p1
set_option maxHeartbeats 4000000 in
theorem laws_FnExactNamedWeb.early (t0 : ByteArray) (w : World) (hs0 : 1048576 < t0.size) (hm : t0.size ≤ maxLen) :
    Calls Try.prog 3 #[.string t0] w fun e w' => e = .returned (.bool true) ∧ Below w.heap.size w w' := by
  have d1 : decide (1048576 < t0.size) = true := decide_eq_true hs0
  have d2 : decide ((1048576 : Int) < (t0.size : Int)) = true := decide_eq_true (by omega)
  go_enter Try.func3, Try.ntmps3
  go_wp2
  go_ret
  exact ⟨rfl, Below.refl _ _⟩
theorem laws_FnExactNamedWeb.walk (P : laws_FnExactNamedWeb.Pure) (a0 : ByteArray) (w : World) (w0 : a0.size ≤ 140737488351232) :
    Calls Try.prog 3 #[.string a0] w fun e w' => e = .returned (.bool true) ∧ Below w.heap.size w w' := by
  by_cases hs : a0.size ≤ 1048576
  · obtain ⟨k, c, m, g0, g1, p0, p1, h⟩ := P a0 hs
    exact laws_FnExactNamedWeb.one a0 w hs k c m g0 g1 p0 p1 h
  · exact laws_FnExactNamedWeb.early a0 w (by omega) (by unfold maxLen; omega)

end Go.Proofs.Ytflpdjmdkdgijaa.G
