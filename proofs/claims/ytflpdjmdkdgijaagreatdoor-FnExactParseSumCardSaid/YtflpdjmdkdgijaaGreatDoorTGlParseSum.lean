-- Written by the session's program mk.py (which runs the kit's print.py over functions and over contracts given by hand).
import Derived.Test.YtflpdjmdkdgijaaGreatDoorTG0
import Derived.Test.YtflpdjmdkdgijaaGreatDoorTG10
import Derived.Test.YtflpdjmdkdgijaaGreatDoorTG12
import Derived.Test.YtflpdjmdkdgijaaGreatDoorTG13
import Derived.Test.YtflpdjmdkdgijaaGreatDoorTGgB
import Derived.Test.YtflpdjmdkdgijaaGreatDoorTGgC
import Derived.Test.YtflpdjmdkdgijaaGreatDoorTGgK
import Derived.Test.YtflpdjmdkdgijaaGreatDoorTGgO1
import Derived.Test.YtflpdjmdkdgijaaGreatDoorTGgQ
import Derived.Test.YtflpdjmdkdgijaaGreatDoorTGgW
namespace Go.Proofs.YtflpdjmdkdgijaaGreatDoor.G
open Go.RowKit Go.Maps Go.Proofs.YtflpdjmdkdgijaaGreatDoorW.PrintWords Go.Proofs.YtflpdjmdkdgijaaGreatDoorW.PrintLast Go.Proofs.YtflpdjmdkdgijaaGreatDoorW.PrintMore
attribute [local go_sem] max2_int min2_int max_two min_two max_three min_three max_four min_four   -- for this text's walks alone
set_option linter.unusedVariables false
set_option linter.unusedSimpArgs false

/-! ### spec_ParseSum: function 4 -/
def spec_ParseSum.f (k : Nat) (a0 : Int) (a1 : ByteArray) : Option (Int × (List (S45)) × Int) := (spec_l03Prime.f a0).bind fun t102 => (if t102 = true then ((spec_l03Read.f k a0 a1).bind fun bt103 => (if bt103.2.2 = true then (some (bt103.1, bt103.2.1, 0)) else (some (0, ([] : List (S45)), 6)))) else (some (0, ([] : List (S45)), 2)))
set_option maxHeartbeats 8000000 in
set_option maxRecDepth 100000 in
theorem spec_ParseSum.calls (k : Nat) (a0 : Int) (a1 : ByteArray) (r1 : Int) (r2 : List (S45)) (r3 : Int) (w : World) (h : spec_ParseSum.f k a0 a1 = some (r1, r2, r3)) :
    Calls Tryz.prog 4 #[.int .i64 a0, .string a1] w fun e w' => ∃ v1_ : Value, e = .returned (.tuple #[.agg #[.int .i64 r1, v1_], .int .i64 r3]) ∧ Kd.S k45 45 w' w.heap.size (fun _ => True) v1_ r2 ∧ Below w.heap.size w w' := by
  have hu24 := Tryz.underlying24
  have HB := Aside0.mk (Below.refl w.heap.size w)
  have H : ((spec_l03Prime.f a0).bind fun t102 => (if t102 = true then ((spec_l03Read.f k a0 a1).bind fun bt103 => (if bt103.2.2 = true then (some (bt103.1, bt103.2.1, 0)) else (some (0, ([] : List (S45)), 6)))) else (some (0, ([] : List (S45)), 2)))) = some (r1, r2, r3) := h
  clear h
  replace H := Option.bind_eq_some_iff.mp H
  obtain ⟨t102, A30, H⟩ := H
  replace H : (if t102 = true then ((spec_l03Read.f k a0 a1).bind fun bt103 => (if bt103.2.2 = true then (some (bt103.1, bt103.2.1, 0)) else (some (0, ([] : List (S45)), 6)))) else (some (0, ([] : List (S45)), 2))) = some (r1, r2, r3) := H
  have A3 := Aside0.mk A30
  clear A30
  by_cases c4 : t102 = true
  · subst c4
    have H1 : ((spec_l03Read.f k a0 a1).bind fun bt103 => (if bt103.2.2 = true then (some (bt103.1, bt103.2.1, 0)) else (some (0, ([] : List (S45)), 6)))) = some (r1, r2, r3) := by rw [if_pos rfl] at H; exact H
    clear H
    have H := H1
    clear H1
    replace H := Option.bind_eq_some_iff.mp H
    obtain ⟨⟨t103, t104, t107⟩, A50, H⟩ := H
    replace H : (if t107 = true then (some (t103, t104, 0)) else (some (0, ([] : List (S45)), 6))) = some (r1, r2, r3) := H
    have A5 := Aside0.mk A50
    clear A50
    by_cases c6 : t107 = true
    · subst c6
      have H1 : (some (t103, t104, 0)) = some (r1, r2, r3) := by rw [if_pos rfl] at H; exact H
      clear H
      have H := H1
      clear H1
      simp only [Option.some.injEq, Prod.mk.injEq] at H
      obtain ⟨rfl, rfl, rfl⟩ := H
      go_enter Tryz.func4, Tryz.ntmps4
      go_wp2_with (first | ((with_reducible refine gate_dst (N := 4) rfl ?_); refine box_event ?hg (N := 4) ?hd (cs := #[.int .i64 0, .slice none 0 0]) (t := 24) ?hr ?_; (case hd => rfl); (case hg => rfl); (case hr => first | (go_simp; done) | (go_simp; rfl)); intro gb101 hg w7 hbox hb; have n0_ := Aside0.mk (below_step (by repeat (first | (with_reducible first | exact HB.out | apply below_alloc | apply pw_below_drewN | apply below_drew1) | exact HB.out)) hb); have n1_ := Aside0.mk (hbox); have n2_ := Aside0.mk ((by rw [hg]; exact (below_size (by repeat (first | (with_reducible first | exact HB.out | apply below_alloc | apply pw_below_drewN | apply below_drew1) | exact HB.out))) : w.heap.size ≤ gb101)); have n3_ := Aside0.mk ((by rw [hg]; exact (below_size (by repeat (first | (with_reducible first | exact HB.out | apply below_alloc | apply pw_below_drewN | apply below_drew1) | exact HB.out))) : w.heap.size ≤ gb101)); clear HB; have HB := n0_; have BK101 := n1_; have GW101 := n2_; have GE101 := n3_; clear n0_ n1_ n2_ n3_; clear hb hbox hg) | ((with_reducible refine gate_callee (f := 9) rfl ?_); refine goesL_ (some 9) rfl rfl Tryz.func9 (by kernel_rfl) rfl #[.int .i64 a0] rfl (by (try simp only [List.map_toArray, List.map_cons, List.map_nil]); first | done | rfl | (simp only [List.length_drop, List.length_take]; rfl)) ?_; (with_reducible refine (spec_l03Prime.calls a0 true _ A3.out).mono ?_); rintro e w' ⟨rfl, ⟨nd, rfl⟩⟩; refine ⟨_, rfl, ?_⟩; (try (rw [drewN_self w7]; generalize hq_ : World.drewN w7 _ = w7; have n0_ : Aside0 (w7.heap[gb101]? = some (.cells #[.int .i64 0, .slice none 0 0] 24 (0, 0))) := ⟨by rw [← hq_]; exact (by (with_reducible repeat (first | refine blk_drewN ?_ _ | refine blk_drew ?_ | refine blk_alloc ?_ _)); exact BK101.out)⟩; have n1_ : Aside0 (Below w.heap.size w w7) := ⟨by rw [← hq_]; exact (by repeat (first | (with_reducible first | exact HB.out | apply below_alloc | apply pw_below_drewN | apply below_drew1 | refine below_set ?_ GE101.out) | exact HB.out))⟩; clear BK101 HB hq_; have BK101 := n0_; have HB := n1_; clear n0_ n1_))) | ((with_reducible refine gate_callee (f := 10) rfl ?_); refine goesL_ (some 15) rfl rfl Tryz.func10 (by kernel_rfl) rfl #[.int .i64 a0, .string a1] rfl (by (try simp only [List.map_toArray, List.map_cons, List.map_nil]); first | done | rfl | (simp only [List.length_drop, List.length_take]; rfl)) ?_; (with_reducible refine (spec_l03Read.calls k a0 a1 t103 t104 true _ A5.out).mono ?_); rintro e w8 ⟨v105, rfl, ho0, hb⟩; refine ⟨_, rfl, ?_⟩; have n0_ := Aside0.mk (Kd.S_lower ho0 (below_size (by repeat (first | (with_reducible first | exact HB.out | apply below_alloc | apply pw_below_drewN | apply below_drew1 | refine below_set ?_ GE101.out) | exact HB.out)))); have n1_ := Aside0.mk (blk_below (g := gb101) (o := .cells #[.int .i64 0, .slice none 0 0] 24 (0, 0)) (by (with_reducible repeat (first | refine blk_drewN ?_ _ | refine blk_drew ?_ | refine blk_alloc ?_ _)); exact BK101.out) hb); have n2_ := Aside0.mk (below_step (by repeat (first | (with_reducible first | exact HB.out | apply below_alloc | apply pw_below_drewN | apply below_drew1 | refine below_set ?_ GE101.out) | exact HB.out)) hb); clear BK101; clear HB; have HO106 := n0_; have BK101 := n1_; have HB := n2_; clear n0_ n1_ n2_; (try clear hb); (try clear hb2); (try clear hk); (try clear hi); (try clear ho0)) | ((with_reducible refine gate_dst (N := 6) rfl ?_); refine box_event ?hg (N := 6) ?hd (cs := #[.int .i64 0, .slice none 0 0]) (t := 24) ?hr ?_; (case hd => rfl); (case hg => rfl); (case hr => first | (go_simp; done) | (go_simp; rfl)); intro gb108 hg w9 hbox hb; have n0_ := Aside0.mk (Kd.S_below (by (with_reducible repeat (first | apply Kd.S_alloc | apply Kd.S_drewN | apply Kd.S_drew)); exact HO106.out) hb); have n1_ := Aside0.mk (blk_below (g := gb101) (o := .cells #[.int .i64 0, .slice none 0 0] 24 (0, 0)) (by (with_reducible repeat (first | refine blk_drewN ?_ _ | refine blk_drew ?_ | refine blk_alloc ?_ _)); exact BK101.out) hb); have n2_ := Aside0.mk (below_step (by repeat (first | (with_reducible first | exact HB.out | apply below_alloc | apply pw_below_drewN | apply below_drew1 | refine below_set ?_ GE101.out) | exact HB.out)) hb); have n3_ := Aside0.mk (hbox); have n4_ := Aside0.mk ((by rw [hg]; exact (below_size (by repeat (first | (with_reducible first | exact HB.out | apply below_alloc | apply pw_below_drewN | apply below_drew1 | refine below_set ?_ GE101.out) | exact HB.out))) : w.heap.size ≤ gb108)); have n5_ := Aside0.mk ((by rw [hg]; exact (below_size (by repeat (first | (with_reducible first | exact HB.out | apply below_alloc | apply pw_below_drewN | apply below_drew1 | refine below_set ?_ GE101.out) | exact HB.out))) : w.heap.size ≤ gb108)); have n6_ := Aside0.mk ((by rw [hg]; exact Nat.ne_of_lt (blk_lt (g := gb101) (o := .cells #[.int .i64 0, .slice none 0 0] 24 (0, 0)) (by (with_reducible repeat (first | refine blk_drewN ?_ _ | refine blk_drew ?_ | refine blk_alloc ?_ _)); exact BK101.out)) : gb101 ≠ gb108)); have n7_ := Aside0.mk ((by rw [hg]; exact Nat.ne_of_gt (blk_lt (g := gb101) (o := .cells #[.int .i64 0, .slice none 0 0] 24 (0, 0)) (by (with_reducible repeat (first | refine blk_drewN ?_ _ | refine blk_drew ?_ | refine blk_alloc ?_ _)); exact BK101.out)) : gb108 ≠ gb101)); clear HO106; clear BK101; clear HB; have HO106 := n0_; have BK101 := n1_; have HB := n2_; have BK108 := n3_; have GW108 := n4_; have GE108 := n5_; have NB101_108 := n6_; have NB108_101 := n7_; clear n0_ n1_ n2_ n3_ n4_ n5_ n6_ n7_; clear hb hbox hg; have hnb10 := NB108_101.out; have hnc10 := NB101_108.out; have hcz11_0 : w9.cell? ⟨gb108, 0, none⟩ = some (.int .i64 0) := (blk_cell BK108.out 0).trans rfl; have hcz11_1 : w9.cell? ⟨gb108, 1, none⟩ = some (.slice none 0 0) := (blk_cell BK108.out 1).trans rfl; have hfz11_0 := blk_frozen BK108.out 0; have hfz11_1 := blk_frozen BK108.out 1; obtain ⟨Ao12, co12, eo12⟩ := Kd.S_slice HO106.out; subst eo12; have hcz13_0 : w9.cell? ⟨gb101, 0, none⟩ = some (.int .i64 0) := (blk_cell BK101.out 0).trans rfl; have hcz13_1 : w9.cell? ⟨gb101, 1, none⟩ = some (.slice none 0 0) := (blk_cell BK101.out 1).trans rfl; have hfz13_0 := blk_frozen BK101.out 0; have hfz13_1 := blk_frozen BK101.out 1))
      refine bodyPost_ret (results_ct rfl _ _ gb101 24 #[.int .i64 t103, .slice Ao12 t104.length co12] (0, 0) _ rfl (by (with_reducible repeat (first | refine blk_drewN ?_ _ | refine blk_drew ?_ | refine blk_alloc ?_ _)); refine blk_put (cs := #[.int .i64 t103, .slice none 0 0]) ?_ 1 _ rfl; (with_reducible repeat (first | refine blk_drewN ?_ _ | refine blk_drew ?_ | refine blk_alloc ?_ _)); refine blk_put (cs := #[.int .i64 0, .slice none 0 0]) ?_ 0 _ rfl; (with_reducible repeat (first | refine blk_drewN ?_ _ | refine blk_drew ?_ | refine blk_alloc ?_ _)); refine blk_far ?_ NB101_108.out _; (with_reducible repeat (first | refine blk_drewN ?_ _ | refine blk_drew ?_ | refine blk_alloc ?_ _)); refine blk_far ?_ NB101_108.out _; (with_reducible repeat (first | refine blk_drewN ?_ _ | refine blk_drew ?_ | refine blk_alloc ?_ _)); exact BK101.out) Tryz.underlying24 rfl (by kernel_rfl)) rfl ?_
      exact ⟨_, by first | rfl | (simp [errW_none, errW_some] <;> rfl) | (simp [*, errW_none, errW_some] <;> rfl), by (with_reducible repeat (first | apply Kd.S_alloc | apply Kd.S_drewN | apply Kd.S_drew)); exact Kd.S_mono (Kd.S_far (p := ⟨gb101, 1, none⟩) (Kd.S_far (p := ⟨gb101, 0, none⟩) (Kd.S_far (p := ⟨gb108, 1, none⟩) (Kd.S_far (p := ⟨gb108, 0, none⟩) (Kd.S_types (Kd.S_types HO106.out BK108.out (by decide)) BK101.out (by decide)) (fun _ hk => hk.1.2) (.int .i64 t103)) (fun _ hk => hk.1.2) (.slice Ao12 t104.length co12)) (fun _ hk => hk.2) (.int .i64 t103)) (fun _ hk => hk.2) (.slice Ao12 t104.length co12)) (fun _ hk => trivial), by repeat (first | (with_reducible first | exact HB.out | apply below_alloc | apply pw_below_drewN | apply below_drew1 | refine below_set ?_ GE101.out | refine below_set ?_ GE108.out) | exact HB.out)⟩
    · replace c6 := Bool.eq_false_iff.mpr c6
      subst c6
      have H1 : (some (0, ([] : List (S45)), 6)) = some (r1, r2, r3) := by rw [if_neg (show ¬ (false = true) by decide)] at H; exact H
      clear H
      have H := H1
      clear H1
      simp only [Option.some.injEq, Prod.mk.injEq] at H
      obtain ⟨rfl, rfl, rfl⟩ := H
      go_enter Tryz.func4, Tryz.ntmps4
      go_wp2_with (first | ((with_reducible refine gate_dst (N := 4) rfl ?_); refine box_event ?hg (N := 4) ?hd (cs := #[.int .i64 0, .slice none 0 0]) (t := 24) ?hr ?_; (case hd => rfl); (case hg => rfl); (case hr => first | (go_simp; done) | (go_simp; rfl)); intro gb101 hg w14 hbox hb; have n0_ := Aside0.mk (below_step (by repeat (first | (with_reducible first | exact HB.out | apply below_alloc | apply pw_below_drewN | apply below_drew1) | exact HB.out)) hb); have n1_ := Aside0.mk (hbox); have n2_ := Aside0.mk ((by rw [hg]; exact (below_size (by repeat (first | (with_reducible first | exact HB.out | apply below_alloc | apply pw_below_drewN | apply below_drew1) | exact HB.out))) : w.heap.size ≤ gb101)); have n3_ := Aside0.mk ((by rw [hg]; exact (below_size (by repeat (first | (with_reducible first | exact HB.out | apply below_alloc | apply pw_below_drewN | apply below_drew1) | exact HB.out))) : w.heap.size ≤ gb101)); clear HB; have HB := n0_; have BK101 := n1_; have GW101 := n2_; have GE101 := n3_; clear n0_ n1_ n2_ n3_; clear hb hbox hg) | ((with_reducible refine gate_callee (f := 9) rfl ?_); refine goesL_ (some 9) rfl rfl Tryz.func9 (by kernel_rfl) rfl #[.int .i64 a0] rfl (by (try simp only [List.map_toArray, List.map_cons, List.map_nil]); first | done | rfl | (simp only [List.length_drop, List.length_take]; rfl)) ?_; (with_reducible refine (spec_l03Prime.calls a0 true _ A3.out).mono ?_); rintro e w' ⟨rfl, ⟨nd, rfl⟩⟩; refine ⟨_, rfl, ?_⟩; (try (rw [drewN_self w14]; generalize hq_ : World.drewN w14 _ = w14; have n0_ : Aside0 (w14.heap[gb101]? = some (.cells #[.int .i64 0, .slice none 0 0] 24 (0, 0))) := ⟨by rw [← hq_]; exact (by (with_reducible repeat (first | refine blk_drewN ?_ _ | refine blk_drew ?_ | refine blk_alloc ?_ _)); exact BK101.out)⟩; have n1_ : Aside0 (Below w.heap.size w w14) := ⟨by rw [← hq_]; exact (by repeat (first | (with_reducible first | exact HB.out | apply below_alloc | apply pw_below_drewN | apply below_drew1 | refine below_set ?_ GE101.out) | exact HB.out))⟩; clear BK101 HB hq_; have BK101 := n0_; have HB := n1_; clear n0_ n1_))) | ((with_reducible refine gate_callee (f := 10) rfl ?_); refine goesL_ (some 15) rfl rfl Tryz.func10 (by kernel_rfl) rfl #[.int .i64 a0, .string a1] rfl (by (try simp only [List.map_toArray, List.map_cons, List.map_nil]); first | done | rfl | (simp only [List.length_drop, List.length_take]; rfl)) ?_; (with_reducible refine (spec_l03Read.calls k a0 a1 t103 t104 false _ A5.out).mono ?_); rintro e w15 ⟨v105, rfl, ho0, hb⟩; refine ⟨_, rfl, ?_⟩; have n0_ := Aside0.mk (Kd.S_lower ho0 (below_size (by repeat (first | (with_reducible first | exact HB.out | apply below_alloc | apply pw_below_drewN | apply below_drew1 | refine below_set ?_ GE101.out) | exact HB.out)))); have n1_ := Aside0.mk (blk_below (g := gb101) (o := .cells #[.int .i64 0, .slice none 0 0] 24 (0, 0)) (by (with_reducible repeat (first | refine blk_drewN ?_ _ | refine blk_drew ?_ | refine blk_alloc ?_ _)); exact BK101.out) hb); have n2_ := Aside0.mk (below_step (by repeat (first | (with_reducible first | exact HB.out | apply below_alloc | apply pw_below_drewN | apply below_drew1 | refine below_set ?_ GE101.out) | exact HB.out)) hb); clear BK101; clear HB; have HO106 := n0_; have BK101 := n1_; have HB := n2_; clear n0_ n1_ n2_; (try clear hb); (try clear hb2); (try clear hk); (try clear hi); (try clear ho0)) | ((with_reducible refine gate_dst (N := 6) rfl ?_); refine box_event ?hg (N := 6) ?hd (cs := #[.int .i64 0, .slice none 0 0]) (t := 24) ?hr ?_; (case hd => rfl); (case hg => rfl); (case hr => first | (go_simp; done) | (go_simp; rfl)); intro gb108 hg w16 hbox hb; have n0_ := Aside0.mk (Kd.S_below (by (with_reducible repeat (first | apply Kd.S_alloc | apply Kd.S_drewN | apply Kd.S_drew)); exact HO106.out) hb); have n1_ := Aside0.mk (blk_below (g := gb101) (o := .cells #[.int .i64 0, .slice none 0 0] 24 (0, 0)) (by (with_reducible repeat (first | refine blk_drewN ?_ _ | refine blk_drew ?_ | refine blk_alloc ?_ _)); exact BK101.out) hb); have n2_ := Aside0.mk (below_step (by repeat (first | (with_reducible first | exact HB.out | apply below_alloc | apply pw_below_drewN | apply below_drew1 | refine below_set ?_ GE101.out) | exact HB.out)) hb); have n3_ := Aside0.mk (hbox); have n4_ := Aside0.mk ((by rw [hg]; exact (below_size (by repeat (first | (with_reducible first | exact HB.out | apply below_alloc | apply pw_below_drewN | apply below_drew1 | refine below_set ?_ GE101.out) | exact HB.out))) : w.heap.size ≤ gb108)); have n5_ := Aside0.mk ((by rw [hg]; exact (below_size (by repeat (first | (with_reducible first | exact HB.out | apply below_alloc | apply pw_below_drewN | apply below_drew1 | refine below_set ?_ GE101.out) | exact HB.out))) : w.heap.size ≤ gb108)); have n6_ := Aside0.mk ((by rw [hg]; exact Nat.ne_of_lt (blk_lt (g := gb101) (o := .cells #[.int .i64 0, .slice none 0 0] 24 (0, 0)) (by (with_reducible repeat (first | refine blk_drewN ?_ _ | refine blk_drew ?_ | refine blk_alloc ?_ _)); exact BK101.out)) : gb101 ≠ gb108)); have n7_ := Aside0.mk ((by rw [hg]; exact Nat.ne_of_gt (blk_lt (g := gb101) (o := .cells #[.int .i64 0, .slice none 0 0] 24 (0, 0)) (by (with_reducible repeat (first | refine blk_drewN ?_ _ | refine blk_drew ?_ | refine blk_alloc ?_ _)); exact BK101.out)) : gb108 ≠ gb101)); clear HO106; clear BK101; clear HB; have HO106 := n0_; have BK101 := n1_; have HB := n2_; have BK108 := n3_; have GW108 := n4_; have GE108 := n5_; have NB101_108 := n6_; have NB108_101 := n7_; clear n0_ n1_ n2_ n3_ n4_ n5_ n6_ n7_; clear hb hbox hg; have hnb17 := NB108_101.out; have hnc17 := NB101_108.out; have hcz18_0 : w16.cell? ⟨gb108, 0, none⟩ = some (.int .i64 0) := (blk_cell BK108.out 0).trans rfl; have hcz18_1 : w16.cell? ⟨gb108, 1, none⟩ = some (.slice none 0 0) := (blk_cell BK108.out 1).trans rfl; have hfz18_0 := blk_frozen BK108.out 0; have hfz18_1 := blk_frozen BK108.out 1; obtain ⟨Ao19, co19, eo19⟩ := Kd.S_slice HO106.out; subst eo19; have hcz20_0 : w16.cell? ⟨gb101, 0, none⟩ = some (.int .i64 0) := (blk_cell BK101.out 0).trans rfl; have hcz20_1 : w16.cell? ⟨gb101, 1, none⟩ = some (.slice none 0 0) := (blk_cell BK101.out 1).trans rfl; have hfz20_0 := blk_frozen BK101.out 0; have hfz20_1 := blk_frozen BK101.out 1))
      refine bodyPost_ret (results_ct rfl _ _ gb101 24 #[.int .i64 0, .slice none 0 0] (0, 0) _ rfl (by (with_reducible repeat (first | refine blk_drewN ?_ _ | refine blk_drew ?_ | refine blk_alloc ?_ _)); refine blk_put (cs := #[.int .i64 0, .slice none 0 0]) ?_ 1 _ rfl; (with_reducible repeat (first | refine blk_drewN ?_ _ | refine blk_drew ?_ | refine blk_alloc ?_ _)); refine blk_put (cs := #[.int .i64 0, .slice none 0 0]) ?_ 0 _ rfl; (with_reducible repeat (first | refine blk_drewN ?_ _ | refine blk_drew ?_ | refine blk_alloc ?_ _)); refine blk_far ?_ NB101_108.out _; (with_reducible repeat (first | refine blk_drewN ?_ _ | refine blk_drew ?_ | refine blk_alloc ?_ _)); refine blk_far ?_ NB101_108.out _; (with_reducible repeat (first | refine blk_drewN ?_ _ | refine blk_drew ?_ | refine blk_alloc ?_ _)); exact BK101.out) Tryz.underlying24 rfl (by kernel_rfl)) rfl ?_
      exact ⟨_, by first | rfl | (simp [errW_none, errW_some] <;> rfl) | (simp [*, errW_none, errW_some] <;> rfl), by first | exact Kd.S_nil _ _ _ _ _ | exact Kd.N_nil _ _ _ _ _ | exact Kd.V_nil _ _ _ _ _ | exact Kd.Q_nil _ _ _ _ _ | exact Kd.R_nil _ _ _ _ _, by repeat (first | (with_reducible first | exact HB.out | apply below_alloc | apply pw_below_drewN | apply below_drew1 | refine below_set ?_ GE101.out | refine below_set ?_ GE108.out) | exact HB.out)⟩
  · replace c4 := Bool.eq_false_iff.mpr c4
    subst c4
    have H1 : (some (0, ([] : List (S45)), 2)) = some (r1, r2, r3) := by rw [if_neg (show ¬ (false = true) by decide)] at H; exact H
    clear H
    have H := H1
    clear H1
    simp only [Option.some.injEq, Prod.mk.injEq] at H
    obtain ⟨rfl, rfl, rfl⟩ := H
    go_enter Tryz.func4, Tryz.ntmps4
    go_wp2_with (first | ((with_reducible refine gate_dst (N := 4) rfl ?_); refine box_event ?hg (N := 4) ?hd (cs := #[.int .i64 0, .slice none 0 0]) (t := 24) ?hr ?_; (case hd => rfl); (case hg => rfl); (case hr => first | (go_simp; done) | (go_simp; rfl)); intro gb101 hg w21 hbox hb; have n0_ := Aside0.mk (below_step (by repeat (first | (with_reducible first | exact HB.out | apply below_alloc | apply pw_below_drewN | apply below_drew1) | exact HB.out)) hb); have n1_ := Aside0.mk (hbox); have n2_ := Aside0.mk ((by rw [hg]; exact (below_size (by repeat (first | (with_reducible first | exact HB.out | apply below_alloc | apply pw_below_drewN | apply below_drew1) | exact HB.out))) : w.heap.size ≤ gb101)); have n3_ := Aside0.mk ((by rw [hg]; exact (below_size (by repeat (first | (with_reducible first | exact HB.out | apply below_alloc | apply pw_below_drewN | apply below_drew1) | exact HB.out))) : w.heap.size ≤ gb101)); clear HB; have HB := n0_; have BK101 := n1_; have GW101 := n2_; have GE101 := n3_; clear n0_ n1_ n2_ n3_; clear hb hbox hg) | ((with_reducible refine gate_callee (f := 9) rfl ?_); refine goesL_ (some 9) rfl rfl Tryz.func9 (by kernel_rfl) rfl #[.int .i64 a0] rfl (by (try simp only [List.map_toArray, List.map_cons, List.map_nil]); first | done | rfl | (simp only [List.length_drop, List.length_take]; rfl)) ?_; (with_reducible refine (spec_l03Prime.calls a0 false _ A3.out).mono ?_); rintro e w' ⟨rfl, ⟨nd, rfl⟩⟩; refine ⟨_, rfl, ?_⟩; (try (rw [drewN_self w21]; generalize hq_ : World.drewN w21 _ = w21; have n0_ : Aside0 (w21.heap[gb101]? = some (.cells #[.int .i64 0, .slice none 0 0] 24 (0, 0))) := ⟨by rw [← hq_]; exact (by (with_reducible repeat (first | refine blk_drewN ?_ _ | refine blk_drew ?_ | refine blk_alloc ?_ _)); exact BK101.out)⟩; have n1_ : Aside0 (Below w.heap.size w w21) := ⟨by rw [← hq_]; exact (by repeat (first | (with_reducible first | exact HB.out | apply below_alloc | apply pw_below_drewN | apply below_drew1 | refine below_set ?_ GE101.out) | exact HB.out))⟩; clear BK101 HB hq_; have BK101 := n0_; have HB := n1_; clear n0_ n1_)); have hcz22_0 : w21.cell? ⟨gb101, 0, none⟩ = some (.int .i64 0) := (blk_cell BK101.out 0).trans rfl; have hcz22_1 : w21.cell? ⟨gb101, 1, none⟩ = some (.slice none 0 0) := (blk_cell BK101.out 1).trans rfl; have hfz22_0 := blk_frozen BK101.out 0; have hfz22_1 := blk_frozen BK101.out 1))
    refine bodyPost_ret (results_ct rfl _ _ gb101 24 #[.int .i64 0, .slice none 0 0] (0, 0) _ rfl (by (with_reducible repeat (first | refine blk_drewN ?_ _ | refine blk_drew ?_ | refine blk_alloc ?_ _)); refine blk_put (cs := #[.int .i64 0, .slice none 0 0]) ?_ 1 _ rfl; (with_reducible repeat (first | refine blk_drewN ?_ _ | refine blk_drew ?_ | refine blk_alloc ?_ _)); refine blk_put (cs := #[.int .i64 0, .slice none 0 0]) ?_ 0 _ rfl; (with_reducible repeat (first | refine blk_drewN ?_ _ | refine blk_drew ?_ | refine blk_alloc ?_ _)); exact BK101.out) Tryz.underlying24 rfl (by kernel_rfl)) rfl ?_
    exact ⟨_, by first | rfl | (simp [errW_none, errW_some] <;> rfl) | (simp [*, errW_none, errW_some] <;> rfl), by first | exact Kd.S_nil _ _ _ _ _ | exact Kd.N_nil _ _ _ _ _ | exact Kd.V_nil _ _ _ _ _ | exact Kd.Q_nil _ _ _ _ _ | exact Kd.R_nil _ _ _ _ _, by repeat (first | (with_reducible first | exact HB.out | apply below_alloc | apply pw_below_drewN | apply below_drew1 | refine below_set ?_ GE101.out) | exact HB.out)⟩

/-! ### impl_ParseSum: function 5 -/
mutual
def impl_ParseSum.j1 : Nat → ByteArray → Int → List (S45) → Option (Int × (List (S45)) × Int)
  | 0, _, _, _ => none
  | k + 1, x1, x104000, x104001 => (impl_IsSum.f k x104000 x104001).bind fun t118 => (if t118 = true then ((impl_sumText.f k x104000 x104001).bind fun t119 => (if t119.toList = x1.toList then (some (x104000, x104001, 0)) else (some (0, ([] : List (S45)), 6)))) else (some (0, ([] : List (S45)), 6)))
def impl_ParseSum.l0 : Nat → ByteArray → List ByteArray → Int → Int → Int → List (S45) → Option (Int × (List (S45)) × Int)
  | 0, _, _, _, _, _, _ => none
  | k + 1, x1, x23, x24, x25, x104000, x104001 => if x25 < x24 then (if 0 ≤ x25 then (if x25 < (x23.length : Int) then (if x1.toList = ([48] : List UInt8) then (impl_ParseSum.j1 k x1 x104000 x104001) else ((strings_Cut.f (rdOf ByteArray.empty x23 x25) (⟨#[42]⟩ : ByteArray)).bind fun bt108 => ((impl_readWord.f k bt108.2.1).bind fun bt111 => (if x104001.length < 4398046511104 then (impl_ParseSum.l0 k x1 x23 x24 (wrap64 (x25 + 1)) x104000 (x104001 ++ [(⟨bt111.1, parseI bt108.1⟩ : S45)])) else (none))))) else (none)) else (none)) else (impl_ParseSum.j1 k x1 x104000 x104001)
end
def impl_ParseSum.f (k : Nat) (a0 : Int) (a1 : ByteArray) : Option (Int × (List (S45)) × Int) := (impl_isPrime.f k a0).bind fun t102 => (if t102 = true then ((strings_SplitN.f a1 (⟨#[43]⟩ : ByteArray) 201).bind fun t104 => (impl_ParseSum.l0 k a1 t104 (t104.length : Int) 0 a0 ([] : List (S45)))) else (some (0, ([] : List (S45)), 2)))
set_option maxHeartbeats 8000000 in
set_option maxRecDepth 100000 in
theorem impl_ParseSum.calls (k : Nat) (a0 : Int) (a1 : ByteArray) (r1 : Int) (r2 : List (S45)) (r3 : Int) (w : World) (hG : Gl w) (h : impl_ParseSum.f k a0 a1 = some (r1, r2, r3)) :
    Calls Tryz.prog 5 #[.int .i64 a0, .string a1] w fun e w' => ∃ v1_ : Value, e = .returned (.tuple #[.agg #[.int .i64 r1, v1_], .int .i64 r3]) ∧ Kd.S k45 45 w' w.heap.size (fun _ => True) v1_ r2 ∧ Below w.heap.size w w' := by
  have HG := Aside0.mk hG
  have hu24 := Tryz.underlying24
  have hu45 := Tryz.underlying45
  have HB := Aside0.mk (Below.refl w.heap.size w)
  have H : ((impl_isPrime.f k a0).bind fun t102 => (if t102 = true then ((strings_SplitN.f a1 (⟨#[43]⟩ : ByteArray) 201).bind fun t104 => (impl_ParseSum.l0 k a1 t104 (t104.length : Int) 0 a0 ([] : List (S45)))) else (some (0, ([] : List (S45)), 2)))) = some (r1, r2, r3) := h
  clear h
  replace H := Option.bind_eq_some_iff.mp H
  obtain ⟨t102, A30, H⟩ := H
  replace H : (if t102 = true then ((strings_SplitN.f a1 (⟨#[43]⟩ : ByteArray) 201).bind fun t104 => (impl_ParseSum.l0 k a1 t104 (t104.length : Int) 0 a0 ([] : List (S45)))) else (some (0, ([] : List (S45)), 2))) = some (r1, r2, r3) := H
  have A3 := Aside0.mk A30
  clear A30
  by_cases c4 : t102 = true
  · subst c4
    have H1 : ((strings_SplitN.f a1 (⟨#[43]⟩ : ByteArray) 201).bind fun t104 => (impl_ParseSum.l0 k a1 t104 (t104.length : Int) 0 a0 ([] : List (S45)))) = some (r1, r2, r3) := by rw [if_pos rfl] at H; exact H
    clear H
    have H := H1
    clear H1
    replace H := Option.bind_eq_some_iff.mp H
    obtain ⟨t104, A50, H⟩ := H
    replace H : (impl_ParseSum.l0 k a1 t104 (t104.length : Int) 0 a0 ([] : List (S45))) = some (r1, r2, r3) := H
    have A5 := Aside0.mk A50
    clear A50
    have HC6 := Aside0.mk H
    clear H
    go_enter Tryz.func5, Tryz.ntmps5
    go_upto_block 0 with (first | ((with_reducible refine gate_dst (N := 4) rfl ?_); refine box_event ?hg (N := 4) ?hd (cs := #[.int .i64 0, .slice none 0 0]) (t := 24) ?hr ?_; (case hd => rfl); (case hg => rfl); (case hr => first | (go_simp; done) | (go_simp; rfl)); intro gb101 hg w7 hbox hb; have n0_ := Aside0.mk (below_step (by repeat (first | (with_reducible first | exact HB.out | apply below_alloc | apply pw_below_drewN | apply below_drew1) | exact HB.out)) hb); have n1_ := Aside0.mk (hbox); have n2_ := Aside0.mk ((by rw [hg]; exact (below_size (by repeat (first | (with_reducible first | exact HB.out | apply below_alloc | apply pw_below_drewN | apply below_drew1) | exact HB.out))) : w.heap.size ≤ gb101)); have n3_ := Aside0.mk ((by rw [hg]; exact (below_size (by repeat (first | (with_reducible first | exact HB.out | apply below_alloc | apply pw_below_drewN | apply below_drew1) | exact HB.out))) : w.heap.size ≤ gb101)); clear HB; have HB := n0_; have BK101 := n1_; have GW101 := n2_; have GE101 := n3_; clear n0_ n1_ n2_ n3_; clear hb hbox hg) | ((with_reducible refine gate_callee (f := 11) rfl ?_); refine goesL_ (some 17) rfl rfl Tryz.func11 (by kernel_rfl) rfl #[.int .i64 a0] rfl (by (try simp only [List.map_toArray, List.map_cons, List.map_nil]); first | done | rfl | (simp only [List.length_drop, List.length_take]; rfl)) ?_; (with_reducible refine (impl_isPrime.calls k a0 true _ A3.out).mono ?_); rintro e w8 ⟨rfl, hb⟩; refine ⟨_, rfl, ?_⟩; have n0_ := Aside0.mk (blk_below (g := gb101) (o := .cells #[.int .i64 0, .slice none 0 0] 24 (0, 0)) (by (with_reducible repeat (first | refine blk_drewN ?_ _ | refine blk_drew ?_ | refine blk_alloc ?_ _)); exact BK101.out) hb); have n1_ := Aside0.mk (below_step (by repeat (first | (with_reducible first | exact HB.out | apply below_alloc | apply pw_below_drewN | apply below_drew1 | refine below_set ?_ GE101.out) | exact HB.out)) hb); clear BK101; clear HB; have BK101 := n0_; have HB := n1_; clear n0_ n1_; (try clear hb); (try clear hb2); (try clear hk); (try clear hi)) | ((with_reducible refine gate_dst (N := 6) rfl ?_); refine box_event ?hg (N := 6) ?hd (cs := #[.int .i64 0, .slice none 0 0]) (t := 24) ?hr ?_; (case hd => rfl); (case hg => rfl); (case hr => first | (go_simp; done) | (go_simp; rfl)); intro gb103 hg w9 hbox hb; have n0_ := Aside0.mk (blk_below (g := gb101) (o := .cells #[.int .i64 0, .slice none 0 0] 24 (0, 0)) (by (with_reducible repeat (first | refine blk_drewN ?_ _ | refine blk_drew ?_ | refine blk_alloc ?_ _)); exact BK101.out) hb); have n1_ := Aside0.mk (below_step (by repeat (first | (with_reducible first | exact HB.out | apply below_alloc | apply pw_below_drewN | apply below_drew1 | refine below_set ?_ GE101.out) | exact HB.out)) hb); have n2_ := Aside0.mk (hbox); have n3_ := Aside0.mk ((by rw [hg]; exact (below_size (by repeat (first | (with_reducible first | exact HB.out | apply below_alloc | apply pw_below_drewN | apply below_drew1 | refine below_set ?_ GE101.out) | exact HB.out))) : w.heap.size ≤ gb103)); have n4_ := Aside0.mk ((by rw [hg]; exact (below_size (by repeat (first | (with_reducible first | exact HB.out | apply below_alloc | apply pw_below_drewN | apply below_drew1 | refine below_set ?_ GE101.out) | exact HB.out))) : w.heap.size ≤ gb103)); have n5_ := Aside0.mk ((by rw [hg]; exact Nat.ne_of_lt (blk_lt (g := gb101) (o := .cells #[.int .i64 0, .slice none 0 0] 24 (0, 0)) (by (with_reducible repeat (first | refine blk_drewN ?_ _ | refine blk_drew ?_ | refine blk_alloc ?_ _)); exact BK101.out)) : gb101 ≠ gb103)); have n6_ := Aside0.mk ((by rw [hg]; exact Nat.ne_of_gt (blk_lt (g := gb101) (o := .cells #[.int .i64 0, .slice none 0 0] 24 (0, 0)) (by (with_reducible repeat (first | refine blk_drewN ?_ _ | refine blk_drew ?_ | refine blk_alloc ?_ _)); exact BK101.out)) : gb103 ≠ gb101)); clear BK101; clear HB; have BK101 := n0_; have HB := n1_; have BK103 := n2_; have GW103 := n3_; have GE103 := n4_; have NB101_103 := n5_; have NB103_101 := n6_; clear n0_ n1_ n2_ n3_ n4_ n5_ n6_; clear hb hbox hg; have hnb10 := NB103_101.out; have hnc10 := NB101_103.out; have hcz11_0 : w9.cell? ⟨gb103, 0, none⟩ = some (.int .i64 0) := (blk_cell BK103.out 0).trans rfl; have hcz11_1 : w9.cell? ⟨gb103, 1, none⟩ = some (.slice none 0 0) := (blk_cell BK103.out 1).trans rfl; have hfz11_0 := blk_frozen BK103.out 0; have hfz11_1 := blk_frozen BK103.out 1) | ((with_reducible refine gate_callee (f := 12) rfl ?_); refine goesL_ (some 23) rfl rfl Tryz.func12 (by kernel_rfl) rfl #[.string a1, .string (⟨#[43]⟩ : ByteArray), .int .i64 201] rfl (by (try simp only [List.map_toArray, List.map_cons, List.map_nil]); first | done | rfl | (simp only [List.length_drop, List.length_take]; rfl)) ?_; (with_reducible refine (strings_SplitN.calls a1 (⟨#[43]⟩ : ByteArray) 201 t104 _ (Gl.below HG.out (by repeat (first | (with_reducible first | exact HB.out | apply below_alloc | apply pw_below_drewN | apply below_drew1 | refine below_set ?_ GE101.out | refine below_set ?_ GE103.out) | exact HB.out))) A5.out).mono ?_); rintro e w12 ⟨v105, rfl, ho0, hb⟩; refine ⟨_, rfl, ?_⟩; have n0_ := Aside0.mk (Kd.R_lower ho0 (below_size (by repeat (first | (with_reducible first | exact HB.out | apply below_alloc | apply pw_below_drewN | apply below_drew1 | refine below_set ?_ GE101.out | refine below_set ?_ GE103.out) | exact HB.out)))); have n1_ := Aside0.mk (blk_below (g := gb101) (o := .cells #[.int .i64 0, .slice none 0 0] 24 (0, 0)) (by (with_reducible repeat (first | refine blk_drewN ?_ _ | refine blk_drew ?_ | refine blk_alloc ?_ _)); refine blk_far ?_ NB101_103.out _; (with_reducible repeat (first | refine blk_drewN ?_ _ | refine blk_drew ?_ | refine blk_alloc ?_ _)); refine blk_far ?_ NB101_103.out _; (with_reducible repeat (first | refine blk_drewN ?_ _ | refine blk_drew ?_ | refine blk_alloc ?_ _)); exact BK101.out) hb); have n2_ := Aside0.mk (blk_below (g := gb103) (o := .cells #[.int .i64 a0, .slice none 0 0] 24 (0, 0)) (by (with_reducible repeat (first | refine blk_drewN ?_ _ | refine blk_drew ?_ | refine blk_alloc ?_ _)); refine blk_put (cs := #[.int .i64 a0, .slice none 0 0]) ?_ 1 _ rfl; (with_reducible repeat (first | refine blk_drewN ?_ _ | refine blk_drew ?_ | refine blk_alloc ?_ _)); refine blk_put (cs := #[.int .i64 0, .slice none 0 0]) ?_ 0 _ rfl; (with_reducible repeat (first | refine blk_drewN ?_ _ | refine blk_drew ?_ | refine blk_alloc ?_ _)); exact BK103.out) hb); have n3_ := Aside0.mk (below_step (by repeat (first | (with_reducible first | exact HB.out | apply below_alloc | apply pw_below_drewN | apply below_drew1 | refine below_set ?_ GE101.out | refine below_set ?_ GE103.out) | exact HB.out)) hb); clear BK101; clear BK103; clear HB; have HO106 := n0_; have BK101 := n1_; have BK103 := n2_; have HB := n3_; clear n0_ n1_ n2_ n3_; (try clear hb); (try clear hb2); (try clear hk); (try clear hi); (try clear ho0); obtain ⟨Ao13, co13, eo13⟩ := Kd.R_slice HO106.out; subst eo13))
    (try simp only [Act.put, List.setIfInBounds_toArray, List.set_cons_zero, List.set_cons_succ])
    go_cut [] (fun wc => ∃ (kq : Nat) (x104001_5 : List (S45)) (u104001 : Value), Aside0 (impl_ParseSum.j1 kq a1 a0 x104001_5 = some (r1, r2, r3)) ∧ Aside0 (kq ≤ k) ∧ Aside0 (Kd.S k45 45 wc w.heap.size (fun _ => True) u104001 x104001_5) ∧ Aside0 (wc.heap[gb101]? = some (.cells #[.int .i64 0, (.slice none 0 0)] 24 (0, 0))) ∧ Aside0 (wc.heap[gb103]? = some (.cells #[.int .i64 a0, u104001] 24 (0, 0))) ∧ Aside0 (Below w.heap.size w wc))
    case first =>
      have H := HC6.out
      clear HC6
      have H' := Aside0.mk H
      clear H
      go_wp2
      go_loopg [25] k (fun kq v25 w' => ∃ (x25_1 : Int) (x104001_1 : List (S45)) (u104001 : Value), v25 = .int .i64 x25_1 ∧ Aside0 (impl_ParseSum.l0 kq a1 t104 (t104.length : Int) x25_1 a0 x104001_1 = some (r1, r2, r3)) ∧ Aside0 (kq ≤ k) ∧ Aside0 (Kd.R Kd.string 9 w' w.heap.size (fun _ => True) (.slice Ao13 t104.length co13) t104) ∧ Aside0 (Kd.S k45 45 w' w.heap.size (fun _ => True) u104001 x104001_1) ∧ Aside0 (w'.heap[gb101]? = some (.cells #[.int .i64 0, (.slice none 0 0)] 24 (0, 0))) ∧ Aside0 (w'.heap[gb103]? = some (.cells #[.int .i64 a0, u104001] 24 (0, 0))) ∧ Aside0 (Below w.heap.size w w'))
      case atStart => exact ⟨(0), (([] : List (S45))), (.slice none 0 0), (by first | rfl | (simp; done) | (simp [*]; done)), H', ⟨Nat.le_refl _⟩, ⟨by (with_reducible repeat (first | apply Kd.R_alloc | apply Kd.R_drewN | apply Kd.R_drew)); exact HO106.out⟩, ⟨by first | exact Kd.S_nil _ _ _ _ _ | exact Kd.N_nil _ _ _ _ _ | exact Kd.V_nil _ _ _ _ _ | exact Kd.Q_nil _ _ _ _ _ | exact Kd.R_nil _ _ _ _ _⟩, ⟨by (with_reducible repeat (first | refine blk_drewN ?_ _ | refine blk_drew ?_ | refine blk_alloc ?_ _)); exact BK101.out⟩, ⟨by (with_reducible repeat (first | refine blk_drewN ?_ _ | refine blk_drew ?_ | refine blk_alloc ?_ _)); exact BK103.out⟩, ⟨by repeat (first | (with_reducible first | exact HB.out | apply below_alloc | apply pw_below_drewN | apply below_drew1 | refine below_set ?_ GE101.out | refine below_set ?_ GE103.out) | exact HB.out)⟩⟩
      case round =>
        clear H'
        try clear c1
        try clear p2
        try clear c4
        try clear c5
        try clear c10
        try clear c11
        try clear c12
        try clear hcz11_0
        try clear hcz11_1
        try clear hfz11_0
        try clear hfz11_1
        obtain ⟨x25_1, x104001_1, u104001, rfl, HA, HK1, HO_23, HO_104001, BK101, BK103, HB⟩ := hrel
        cases gk with
        | zero => exact absurd HA.out (by simp [impl_ParseSum.l0])
        | succ k1 =>
          have H := HA.out
          clear HA
          simp only [impl_ParseSum.l0] at H
          by_cases c14 : x25_1 < (t104.length : Int)
          · rw [if_pos c14] at H
            have c14b0 : decide (x25_1 < (t104.length : Int)) = true := decide_eq_true c14
            clear c14
            (first | rw [c14b0] | (simp only [i64_w, i32_w]; rw [c14b0]) | skip)
            by_cases c15 : 0 ≤ x25_1
            · rw [if_pos c15] at H
              have c15b0 : decide (0 ≤ x25_1) = true := decide_eq_true c15
              clear c15
              by_cases c16 : x25_1 < (t104.length : Int)
              · rw [if_pos c16] at H
                have c16b0 : decide (x25_1 < (t104.length : Int)) = true := decide_eq_true c16
                clear c16
                by_cases c17 : a1.toList = ([48] : List UInt8)
                · rw [if_pos c17] at H
                  have c17b0 : (a1.toList == ([48] : List UInt8)) = true := beq_iff_eq.mpr c17
                  have c17b1 : (a1.toList != ([48] : List UInt8)) = false := bne_eq_false_iff_eq.mpr c17
                  clear c17
                  have H' := Aside0.mk H
                  clear H
                  have p107 : 0 ≤ (x25_1 : Int) := of_decide_eq_true (by first | (with_reducible assumption) | assumption)
                  have q107 : x25_1 < (t104.length : Int) := of_decide_eq_true (by first | (with_reducible assumption) | assumption)
                  obtain ⟨ad107, e107, hx107_0⟩ := Kd.at_string (Kd.R_reads' HO_23.out).2.2 x25_1 p107 q107
                  cases e107
                  replace p107 := eq_true p107
                  replace q107 := eq_true q107
                  go_wp2
                  go_meet
                  case rel => exact ⟨_, (x104001_1), (u104001), H', ⟨by have := HK1.out; first | omega | exact Nat.le_refl _⟩, ⟨by (with_reducible repeat (first | apply Kd.S_alloc | apply Kd.S_drewN | apply Kd.S_drew)); exact HO_104001.out⟩, ⟨by (with_reducible repeat (first | refine blk_drewN ?_ _ | refine blk_drew ?_ | refine blk_alloc ?_ _)); exact BK101.out⟩, ⟨by (with_reducible repeat (first | refine blk_drewN ?_ _ | refine blk_drew ?_ | refine blk_alloc ?_ _)); exact BK103.out⟩, ⟨by repeat (first | (with_reducible first | exact HB.out | apply below_alloc | apply pw_below_drewN | apply below_drew1 | refine below_set ?_ GE101.out | refine below_set ?_ GE103.out) | exact HB.out)⟩⟩
                · rw [if_neg c17] at H
                  have c17b0 : (a1.toList == ([48] : List UInt8)) = false := beq_eq_false_iff_ne.mpr c17
                  have c17b1 : (a1.toList != ([48] : List UInt8)) = true := bne_iff_ne.mpr c17
                  replace H := Option.bind_eq_some_iff.mp H
                  obtain ⟨⟨t108, t109, t110⟩, A180, H⟩ := H
                  replace H : ((impl_readWord.f k1 t109).bind fun bt111 => (if x104001_1.length < 4398046511104 then (impl_ParseSum.l0 k1 a1 t104 (t104.length : Int) (wrap64 (x25_1 + 1)) a0 (x104001_1 ++ [(⟨bt111.1, parseI t108⟩ : S45)])) else (none))) = some (r1, r2, r3) := H
                  have A18 := Aside0.mk A180
                  clear A180
                  replace H := Option.bind_eq_some_iff.mp H
                  obtain ⟨⟨t111, t112⟩, A190, H⟩ := H
                  replace H : (if x104001_1.length < 4398046511104 then (impl_ParseSum.l0 k1 a1 t104 (t104.length : Int) (wrap64 (x25_1 + 1)) a0 (x104001_1 ++ [(⟨t111, (parseI t108)⟩ : S45)])) else (none)) = some (r1, r2, r3) := H
                  have A19 := Aside0.mk A190
                  clear A190
                  by_cases c20 : x104001_1.length < 4398046511104
                  · rw [if_pos c20] at H
                    have LMc20 := Aside0.mk c20
                    clear c20
                    obtain ⟨y115, hy115⟩ : ∃ y_ : List (S45), y_ = (x104001_1 ++ [(⟨t111, (parseI t108)⟩ : S45)]) := ⟨_, rfl⟩
                    replace H : (impl_ParseSum.l0 k1 a1 t104 (t104.length : Int) (wrap64 (x25_1 + 1)) a0 y115) = some (r1, r2, r3) := by first | (rw [hy115]; with_reducible exact H) | (have H2_ := (Option.bind_some _ _).symm.trans H; rw [hy115]; with_reducible exact H2_) | (have H2_ := (Option.bind_some _ _).symm.trans H; with_reducible exact H2_) | with_reducible exact H | (rw [hy115]; exact H) | exact H
                    have Ny115 := Aside0.mk hy115
                    clear hy115
                    have H' := Aside0.mk H
                    clear H
                    have p107 : 0 ≤ (x25_1 : Int) := of_decide_eq_true (by first | (with_reducible assumption) | assumption)
                    have q107 : x25_1 < (t104.length : Int) := of_decide_eq_true (by first | (with_reducible assumption) | assumption)
                    obtain ⟨ad107, e107, hx107_0⟩ := Kd.at_string (Kd.R_reads' HO_23.out).2.2 x25_1 p107 q107
                    cases e107
                    replace p107 := eq_true p107
                    replace q107 := eq_true q107
                    go_wp2_with (first | ((with_reducible refine gate_callee (f := 13) rfl ?_); refine goesL_ (some 33) rfl rfl Tryz.func13 (by kernel_rfl) rfl #[.string (rdOf ByteArray.empty t104 x25_1), .string (⟨#[42]⟩ : ByteArray)] rfl (by (try simp only [List.map_toArray, List.map_cons, List.map_nil]); first | done | rfl | (simp only [List.length_drop, List.length_take]; rfl)) ?_; (with_reducible refine (strings_Cut.calls (rdOf ByteArray.empty t104 x25_1) (⟨#[42]⟩ : ByteArray) t108 t109 t110 _ (Gl.below HG.out (by repeat (first | (with_reducible first | exact HB.out | apply below_alloc | apply pw_below_drewN | apply below_drew1 | refine below_set ?_ GE101.out | refine below_set ?_ GE103.out) | exact HB.out))) A18.out).mono ?_); rintro e w21 ⟨rfl, hb⟩; refine ⟨_, rfl, ?_⟩; have n0_ := Aside0.mk (Kd.R_below (by (with_reducible repeat (first | apply Kd.R_alloc | apply Kd.R_drewN | apply Kd.R_drew)); exact HO_23.out) hb); have n1_ := Aside0.mk (Kd.S_below (by (with_reducible repeat (first | apply Kd.S_alloc | apply Kd.S_drewN | apply Kd.S_drew)); exact HO_104001.out) hb); have n2_ := Aside0.mk (blk_below (g := gb101) (o := .cells #[.int .i64 0, .slice none 0 0] 24 (0, 0)) (by (with_reducible repeat (first | refine blk_drewN ?_ _ | refine blk_drew ?_ | refine blk_alloc ?_ _)); exact BK101.out) hb); have n3_ := Aside0.mk (blk_below (g := gb103) (o := .cells #[.int .i64 a0, u104001] 24 (0, 0)) (by (with_reducible repeat (first | refine blk_drewN ?_ _ | refine blk_drew ?_ | refine blk_alloc ?_ _)); exact BK103.out) hb); have n4_ := Aside0.mk (below_step (by repeat (first | (with_reducible first | exact HB.out | apply below_alloc | apply pw_below_drewN | apply below_drew1 | refine below_set ?_ GE101.out | refine below_set ?_ GE103.out) | exact HB.out)) hb); clear HO_23; clear HO_104001; clear BK101; clear BK103; clear HB; have HO_23 := n0_; have HO_104001 := n1_; have BK101 := n2_; have BK103 := n3_; have HB := n4_; clear n0_ n1_ n2_ n3_ n4_; (try clear hb); (try clear hb2); (try clear hk); (try clear hi)) | ((with_reducible refine gate_callee (f := 14) rfl ?_); refine goesL_ (some 39) rfl rfl Tryz.func14 (by kernel_rfl) rfl #[.string t108, .int .i64 10, .int .i64 64] rfl (by (try simp only [List.map_toArray, List.map_cons, List.map_nil]); first | done | rfl | (simp only [List.length_drop, List.length_take]; rfl)) ?_; (with_reducible refine (strconv_ParseInt.calls t108 _ (Gl.below HG.out (by repeat (first | (with_reducible first | exact HB.out | apply below_alloc | apply pw_below_drewN | apply below_drew1 | refine below_set ?_ GE101.out | refine below_set ?_ GE103.out) | exact HB.out))) (strings_Cut.small A18.out)).mono ?_); rintro e w21p ⟨ev_, rfl, hb⟩; refine ⟨_, rfl, ?_⟩; have n0_ := Aside0.mk (Kd.R_below (by (with_reducible repeat (first | apply Kd.R_alloc | apply Kd.R_drewN | apply Kd.R_drew)); exact HO_23.out) hb); have n1_ := Aside0.mk (Kd.S_below (by (with_reducible repeat (first | apply Kd.S_alloc | apply Kd.S_drewN | apply Kd.S_drew)); exact HO_104001.out) hb); have n2_ := Aside0.mk (blk_below (g := gb101) (o := .cells #[.int .i64 0, .slice none 0 0] 24 (0, 0)) (by (with_reducible repeat (first | refine blk_drewN ?_ _ | refine blk_drew ?_ | refine blk_alloc ?_ _)); exact BK101.out) hb); have n3_ := Aside0.mk (blk_below (g := gb103) (o := .cells #[.int .i64 a0, u104001] 24 (0, 0)) (by (with_reducible repeat (first | refine blk_drewN ?_ _ | refine blk_drew ?_ | refine blk_alloc ?_ _)); exact BK103.out) hb); have n4_ := Aside0.mk (below_step (by repeat (first | (with_reducible first | exact HB.out | apply below_alloc | apply pw_below_drewN | apply below_drew1 | refine below_set ?_ GE101.out | refine below_set ?_ GE103.out) | exact HB.out)) hb); clear HO_23; clear HO_104001; clear BK101; clear BK103; clear HB; have HO_23 := n0_; have HO_104001 := n1_; have BK101 := n2_; have BK103 := n3_; have HB := n4_; clear n0_ n1_ n2_ n3_ n4_; (try clear hb); (try clear hb2); (try clear hk); (try clear hi)) | ((with_reducible refine gate_callee (f := 15) rfl ?_); refine goesL_ (some 44) rfl rfl Tryz.func15 (by kernel_rfl) rfl #[.string t109] rfl (by (try simp only [List.map_toArray, List.map_cons, List.map_nil]); first | done | rfl | (simp only [List.length_drop, List.length_take]; rfl)) ?_; (with_reducible refine (impl_readWord.calls k1 t109 t111 t112 _ A19.out).mono ?_); rintro e w22 ⟨v113, rfl, ho0, hb⟩; refine ⟨_, rfl, ?_⟩; have n0_ := Aside0.mk (Kd.R_below (by (with_reducible repeat (first | apply Kd.R_alloc | apply Kd.R_drewN | apply Kd.R_drew)); exact HO_23.out) hb); have n1_ := Aside0.mk (Kd.S_elder' (by (with_reducible repeat (first | apply Kd.S_alloc | apply Kd.S_drewN | apply Kd.S_drew)); exact HO_104001.out) (Kd.R_base ho0) hb); have n2_ := Aside0.mk (Kd.R_lower ho0 (below_size (by repeat (first | (with_reducible first | exact HB.out | apply below_alloc | apply pw_below_drewN | apply below_drew1 | refine below_set ?_ GE101.out | refine below_set ?_ GE103.out) | exact HB.out)))); have n3_ := Aside0.mk (blk_below (g := gb101) (o := .cells #[.int .i64 0, .slice none 0 0] 24 (0, 0)) (by (with_reducible repeat (first | refine blk_drewN ?_ _ | refine blk_drew ?_ | refine blk_alloc ?_ _)); exact BK101.out) hb); have n4_ := Aside0.mk (blk_below (g := gb103) (o := .cells #[.int .i64 a0, u104001] 24 (0, 0)) (by (with_reducible repeat (first | refine blk_drewN ?_ _ | refine blk_drew ?_ | refine blk_alloc ?_ _)); exact BK103.out) hb); have n5_ := Aside0.mk (below_step (by repeat (first | (with_reducible first | exact HB.out | apply below_alloc | apply pw_below_drewN | apply below_drew1 | refine below_set ?_ GE101.out | refine below_set ?_ GE103.out) | exact HB.out)) hb); clear HO_23; clear HO_104001; clear BK101; clear BK103; clear HB; have HO_23 := n0_; have HO_104001 := n1_; have HO114 := n2_; have BK101 := n3_; have BK103 := n4_; have HB := n5_; clear n0_ n1_ n2_ n3_ n4_ n5_; (try clear hb); (try clear hb2); (try clear hk); (try clear hi); (try clear ho0); have hnb23 := NB103_101.out; have hnc23 := NB101_103.out; have hcz24_0 : w22.cell? ⟨gb103, 0, none⟩ = some (.int .i64 a0) := (blk_cell BK103.out 0).trans rfl; have hcz24_1 : w22.cell? ⟨gb103, 1, none⟩ = some (u104001) := (blk_cell BK103.out 1).trans rfl; have hfz24_0 := blk_frozen BK103.out 0; have hfz24_1 := blk_frozen BK103.out 1; obtain ⟨Ao25, co25, eo25⟩ := Kd.R_slice HO114.out; subst eo25) | ((with_reducible refine gate_builtin (b := .append) (xs := #[.tmp 48, .tmp 52]) rfl ?_); at_builtin; refine Kd.S_append k45 (w0 := w) w.heap.size rfl (.tmp 48) (.tmp 52) 22 45 (.agg #[(.slice none 0 0), (.int .i64 0)]) 32 rfl Tryz.underlying22 info45 rfl (by decide) (by omega) u104001 x104001_1 (⟨t111, (parseI t108)⟩ : S45) [.slice Ao25 t111.length co25, .int .i64 (parseI t108)] (fun _ => True) (fun k_ => some k_ = (.slice Ao25 t111.length co25 : Value).ownBlock) rfl rfl ?aP (fun k_ hk_ => ((Kd.R_mono (ok' := fun k_ => ((fun _ => True)) k_ ∧ some k_ ≠ (u104001 : Value).ownBlock) (Kd.R_apart' (HO114.out) (Kd.S_typed HO_104001.out) (by decide)) (fun k_ hk => ⟨trivial, hk.2⟩))).1 k_ hk_.symm) ?aF ?aO ?aB ?aS ?aL ?_; (case aP => exact k45_mkM _ _ _ (⟨t111, (parseI t108)⟩ : S45) (Kd.R_mono (Kd.R_tight rfl (Kd.R_mono (ok' := fun k_ => ((fun _ => True)) k_ ∧ some k_ ≠ (u104001 : Value).ownBlock) (Kd.R_apart' (HO114.out) (Kd.S_typed HO_104001.out) (by decide)) (fun k_ hk => ⟨trivial, hk.2⟩))) (fun _ h_ => h_))); (case aB => exact (by repeat (first | (with_reducible first | exact HB.out | apply below_alloc | apply pw_below_drewN | apply below_drew1 | refine below_set ?_ GE101.out | refine below_set ?_ GE103.out) | exact HB.out))); (case aF => exact (fun _ _ => trivial)); (case aO => exact (by (with_reducible repeat (first | apply Kd.S_alloc | apply Kd.S_drewN | apply Kd.S_drew)); exact Kd.S_mono HO_104001.out (fun k_ hk => ⟨trivial, fun e_ => hk.2 e_⟩))); (case aS => exact (below_size (by repeat (first | (with_reducible first | exact HB.out | apply below_alloc | apply pw_below_drewN | apply below_drew1 | refine below_set ?_ GE101.out | refine below_set ?_ GE103.out) | exact HB.out)))); (case aL => have := LMc20.out; omega); intro v116 w26 ho hb hg hat; rw [← Ny115.out] at ho; have n0_ := Aside0.mk (Kd.R_over' (by (with_reducible repeat (first | apply Kd.R_alloc | apply Kd.R_drewN | apply Kd.R_drew)); exact HO_23.out) (Kd.S_typed (by (with_reducible repeat (first | apply Kd.S_alloc | apply Kd.S_drewN | apply Kd.S_drew)); exact HO_104001.out)) (by decide) hg); have n1_ := Aside0.mk (blk_grown (g := gb101) (o := .cells #[.int .i64 0, .slice none 0 0] 24 (0, 0)) (by (with_reducible repeat (first | refine blk_drewN ?_ _ | refine blk_drew ?_ | refine blk_alloc ?_ _)); exact BK101.out) hg (Kd.S_ne HO_104001.out BK101.out (by decide))); have n2_ := Aside0.mk (blk_grown (g := gb103) (o := .cells #[.int .i64 a0, u104001] 24 (0, 0)) (by (with_reducible repeat (first | refine blk_drewN ?_ _ | refine blk_drew ?_ | refine blk_alloc ?_ _)); exact BK103.out) hg (Kd.S_ne HO_104001.out BK103.out (by decide))); have n3_ := Aside0.mk (hb); have n4_ := Aside0.mk (ho); clear HO_23; clear BK101; clear BK103; clear HB; clear HO_104001; clear HO114; have HO_23 := n0_; have BK101 := n1_; have BK103 := n2_; have HB := n3_; have HO117 := n4_; clear n0_ n1_ n2_ n3_ n4_; clear ho hb hg hat; obtain ⟨Ao27, co27, eo27⟩ := Kd.S_slice HO117.out; subst eo27; have hcz28_0 : w26.cell? ⟨gb103, 0, none⟩ = some (.int .i64 a0) := (blk_cell BK103.out 0).trans rfl; have hcz28_1 : w26.cell? ⟨gb103, 1, none⟩ = some (u104001) := (blk_cell BK103.out 1).trans rfl; have hfz28_0 := blk_frozen BK103.out 0; have hfz28_1 := blk_frozen BK103.out 1))
                    go_roundg k1
                    case measure => have := HK1.out; omega
                    case rel => exact ⟨(wrap64 (x25_1 + 1)), (y115), (.slice Ao27 y115.length co27), (by first | rfl | (simp; done) | (simp [*]; done)), H', ⟨by have := HK1.out; omega⟩, ⟨by (with_reducible repeat (first | apply Kd.R_alloc | apply Kd.R_drewN | apply Kd.R_drew)); exact Kd.R_mono (Kd.R_far (p := ⟨gb103, 1, none⟩) (Kd.R_types HO_23.out BK103.out (by decide)) (fun _ hk => hk.2) (.slice Ao27 y115.length co27)) (fun _ hk => trivial)⟩, ⟨by (with_reducible repeat (first | apply Kd.S_alloc | apply Kd.S_drewN | apply Kd.S_drew)); exact Kd.S_mono (Kd.S_far (p := ⟨gb103, 1, none⟩) (Kd.S_types HO117.out BK103.out (by decide)) (fun _ hk => hk.2) (.slice Ao27 y115.length co27)) (fun _ hk => trivial)⟩, ⟨by (with_reducible repeat (first | refine blk_drewN ?_ _ | refine blk_drew ?_ | refine blk_alloc ?_ _)); refine blk_far ?_ NB101_103.out _; (with_reducible repeat (first | refine blk_drewN ?_ _ | refine blk_drew ?_ | refine blk_alloc ?_ _)); exact BK101.out⟩, ⟨by (with_reducible repeat (first | refine blk_drewN ?_ _ | refine blk_drew ?_ | refine blk_alloc ?_ _)); refine blk_put (cs := #[.int .i64 a0, u104001]) ?_ 1 _ rfl; (with_reducible repeat (first | refine blk_drewN ?_ _ | refine blk_drew ?_ | refine blk_alloc ?_ _)); exact BK103.out⟩, ⟨by repeat (first | (with_reducible first | exact HB.out | apply below_alloc | apply pw_below_drewN | apply below_drew1 | refine below_set ?_ GE101.out | refine below_set ?_ GE103.out) | exact HB.out)⟩⟩
                  · rw [if_neg c20] at H
                    exact absurd H (by simp)
              · rw [if_neg c16] at H
                exact absurd H (by simp)
            · rw [if_neg c15] at H
              exact absurd H (by simp)
          · rw [if_neg c14] at H
            have c14b0 : decide (x25_1 < (t104.length : Int)) = false := decide_eq_false c14
            clear c14
            (first | rw [c14b0] | (simp only [i64_w, i32_w]; rw [c14b0]) | skip)
            have H' := Aside0.mk H
            clear H
            go_wp2
            go_meet
            case rel => exact ⟨_, (x104001_1), (u104001), H', ⟨by have := HK1.out; first | omega | exact Nat.le_refl _⟩, ⟨by (with_reducible repeat (first | apply Kd.S_alloc | apply Kd.S_drewN | apply Kd.S_drew)); exact HO_104001.out⟩, ⟨by (with_reducible repeat (first | refine blk_drewN ?_ _ | refine blk_drew ?_ | refine blk_alloc ?_ _)); exact BK101.out⟩, ⟨by (with_reducible repeat (first | refine blk_drewN ?_ _ | refine blk_drew ?_ | refine blk_alloc ?_ _)); exact BK103.out⟩, ⟨by repeat (first | (with_reducible first | exact HB.out | apply below_alloc | apply pw_below_drewN | apply below_drew1 | refine below_set ?_ GE101.out | refine below_set ?_ GE103.out) | exact HB.out)⟩⟩
    case rest =>
      clear HC6
      try clear c1
      try clear p1
      try clear q1
      try clear hx1
      try clear c2
      try clear p2
      try clear c4
      try clear c5
      try clear p6
      try clear c10
      try clear p10
      try clear q10
      try clear hx10
      try clear c11
      try clear c12
      try clear c13
      try clear c14
      try clear c14b0
      try clear c15
      try clear c15b0
      try clear c16
      try clear c16b0
      try clear c17
      try clear c17b0
      try clear c17b1
      try clear c20
      try clear c23
      try clear hcz11_0
      try clear hcz11_1
      try clear hcz24_0
      try clear hcz24_1
      try clear hcz28_0
      try clear hcz28_1
      try clear hfz11_0
      try clear hfz11_1
      try clear hfz24_0
      try clear hfz24_1
      try clear hfz28_0
      try clear hfz28_1
      try clear hx107_0
      try clear p107
      try clear p2
      try clear q107
      obtain ⟨kq, x104001_5, u104001, HA, HJ5, HO_104001, BK101, BK103, HB⟩ := hcut
      cases kq with
      | zero => exact absurd HA.out (by simp [impl_ParseSum.j1])
      | succ kj5 =>
        have H := HA.out
        clear HA
        simp only [impl_ParseSum.j1] at H
        replace H := Option.bind_eq_some_iff.mp H
        obtain ⟨t118, A290, H⟩ := H
        replace H : (if t118 = true then ((impl_sumText.f kj5 a0 x104001_5).bind fun t119 => (if t119.toList = a1.toList then (some (a0, x104001_5, 0)) else (some (0, ([] : List (S45)), 6)))) else (some (0, ([] : List (S45)), 6))) = some (r1, r2, r3) := H
        have A29 := Aside0.mk A290
        clear A290
        by_cases c30 : t118 = true
        · subst c30
          have H1 : ((impl_sumText.f kj5 a0 x104001_5).bind fun t119 => (if t119.toList = a1.toList then (some (a0, x104001_5, 0)) else (some (0, ([] : List (S45)), 6)))) = some (r1, r2, r3) := by rw [if_pos rfl] at H; exact H
          clear H
          have H := H1
          clear H1
          replace H := Option.bind_eq_some_iff.mp H
          obtain ⟨t119, A310, H⟩ := H
          replace H : (if t119.toList = a1.toList then (some (a0, x104001_5, 0)) else (some (0, ([] : List (S45)), 6))) = some (r1, r2, r3) := H
          have A31 := Aside0.mk A310
          clear A310
          by_cases c32 : t119.toList = a1.toList
          · rw [if_pos c32] at H
            have c32b0 : (t119.toList == a1.toList) = true := beq_iff_eq.mpr c32
            have c32b1 : (t119.toList != a1.toList) = false := bne_eq_false_iff_eq.mpr c32
            clear c32
            simp only [Option.some.injEq, Prod.mk.injEq] at H
            obtain ⟨rfl, rfl, rfl⟩ := H
            have hnb33 := NB103_101.out
            have hnc33 := NB101_103.out
            have hcz34_0 : wc.cell? ⟨gb103, 0, none⟩ = some (.int .i64 a0) := (blk_cell BK103.out 0).trans rfl
            have hcz34_1 : wc.cell? ⟨gb103, 1, none⟩ = some (u104001) := (blk_cell BK103.out 1).trans rfl
            have hfz34_0 := blk_frozen BK103.out 0
            have hfz34_1 := blk_frozen BK103.out 1
            obtain ⟨Ao35, co35, eo35⟩ := Kd.S_slice HO_104001.out
            subst eo35
            go_wp2_with (first | ((with_reducible refine gate_callee (f := 16) rfl ?_); refine goesL_ (some 57) rfl rfl Tryz.func16 (by kernel_rfl) rfl #[.agg #[.int .i64 a0, .slice Ao35 x104001_5.length co35]] rfl (by (try simp only [List.map_toArray, List.map_cons, List.map_nil]); first | done | rfl | (simp only [List.length_drop, List.length_take]; rfl)) ?_; (with_reducible refine (impl_IsSum.calls kj5 a0 _ _ x104001_5 true _ ?side1 ?side2 A29.out).mono ?_); (case side1 => repeat (first | exact (Kd.S_reads' HO_104001.out).2.2 | (with_reducible refine Kd.C_alloc ?_ _) | (with_reducible refine Kd.C_drewN ?_ _) | (with_reducible refine Kd.C_drew ?_))); (case side2 => exact (Kd.S_reads' HO_104001.out).2.1); rintro e w36 ⟨rfl, hb⟩; refine ⟨_, rfl, ?_⟩; have n0_ := Aside0.mk (Kd.S_below (by (with_reducible repeat (first | apply Kd.S_alloc | apply Kd.S_drewN | apply Kd.S_drew)); exact HO_104001.out) hb); have n1_ := Aside0.mk (blk_below (g := gb101) (o := .cells #[.int .i64 0, .slice none 0 0] 24 (0, 0)) (by (with_reducible repeat (first | refine blk_drewN ?_ _ | refine blk_drew ?_ | refine blk_alloc ?_ _)); exact BK101.out) hb); have n2_ := Aside0.mk (blk_below (g := gb103) (o := .cells #[.int .i64 a0, .slice Ao35 x104001_5.length co35] 24 (0, 0)) (by (with_reducible repeat (first | refine blk_drewN ?_ _ | refine blk_drew ?_ | refine blk_alloc ?_ _)); exact BK103.out) hb); have n3_ := Aside0.mk (below_step (by repeat (first | (with_reducible first | exact HB.out | apply below_alloc | apply pw_below_drewN | apply below_drew1 | refine below_set ?_ GE101.out | refine below_set ?_ GE103.out) | exact HB.out)) hb); clear HO_104001; clear BK101; clear BK103; clear HB; have HO_104001 := n0_; have BK101 := n1_; have BK103 := n2_; have HB := n3_; clear n0_ n1_ n2_ n3_; (try clear hb); (try clear hb2); (try clear hk); (try clear hi); have hcz37_0 : w36.cell? ⟨gb103, 0, none⟩ = some (.int .i64 a0) := (blk_cell BK103.out 0).trans rfl; have hcz37_1 : w36.cell? ⟨gb103, 1, none⟩ = some (.slice Ao35 x104001_5.length co35) := (blk_cell BK103.out 1).trans rfl; have hfz37_0 := blk_frozen BK103.out 0; have hfz37_1 := blk_frozen BK103.out 1) | (go_at_call 17; (with_reducible refine (impl_sumText.calls kj5 a0 _ _ x104001_5 t119 _ ?side1 ?side2 A31.out).mono ?_); (case side1 => repeat (first | exact (Kd.S_reads' HO_104001.out).2.2 | (with_reducible refine Kd.C_alloc ?_ _) | (with_reducible refine Kd.C_drewN ?_ _) | (with_reducible refine Kd.C_drew ?_))); (case side2 => exact (Kd.S_reads' HO_104001.out).2.1); rintro e w38 ⟨rfl, hb⟩; have n0_ := Aside0.mk (Kd.S_below (by (with_reducible repeat (first | apply Kd.S_alloc | apply Kd.S_drewN | apply Kd.S_drew)); exact HO_104001.out) hb); have n1_ := Aside0.mk (blk_below (g := gb101) (o := .cells #[.int .i64 0, .slice none 0 0] 24 (0, 0)) (by (with_reducible repeat (first | refine blk_drewN ?_ _ | refine blk_drew ?_ | refine blk_alloc ?_ _)); exact BK101.out) hb); have n2_ := Aside0.mk (blk_below (g := gb103) (o := .cells #[.int .i64 a0, .slice Ao35 x104001_5.length co35] 24 (0, 0)) (by (with_reducible repeat (first | refine blk_drewN ?_ _ | refine blk_drew ?_ | refine blk_alloc ?_ _)); exact BK103.out) hb); have n3_ := Aside0.mk (below_step (by repeat (first | (with_reducible first | exact HB.out | apply below_alloc | apply pw_below_drewN | apply below_drew1 | refine below_set ?_ GE101.out | refine below_set ?_ GE103.out) | exact HB.out)) hb); clear HO_104001; clear BK101; clear BK103; clear HB; have HO_104001 := n0_; have BK101 := n1_; have BK103 := n2_; have HB := n3_; clear n0_ n1_ n2_ n3_; (try clear hb); (try clear hb2); (try clear hk); (try clear hi); have hcz39_0 : w38.cell? ⟨gb103, 0, none⟩ = some (.int .i64 a0) := (blk_cell BK103.out 0).trans rfl; have hcz39_1 : w38.cell? ⟨gb103, 1, none⟩ = some (.slice Ao35 x104001_5.length co35) := (blk_cell BK103.out 1).trans rfl; have hfz39_0 := blk_frozen BK103.out 0; have hfz39_1 := blk_frozen BK103.out 1; have hcz40_0 : w38.cell? ⟨gb101, 0, none⟩ = some (.int .i64 0) := (blk_cell BK101.out 0).trans rfl; have hcz40_1 : w38.cell? ⟨gb101, 1, none⟩ = some (.slice none 0 0) := (blk_cell BK101.out 1).trans rfl; have hfz40_0 := blk_frozen BK101.out 0; have hfz40_1 := blk_frozen BK101.out 1))
            refine bodyPost_ret (results_ct rfl _ _ gb101 24 #[.int .i64 a0, .slice Ao35 x104001_5.length co35] (0, 0) _ rfl (by (with_reducible repeat (first | refine blk_drewN ?_ _ | refine blk_drew ?_ | refine blk_alloc ?_ _)); refine blk_put (cs := #[.int .i64 a0, .slice none 0 0]) ?_ 1 _ rfl; (with_reducible repeat (first | refine blk_drewN ?_ _ | refine blk_drew ?_ | refine blk_alloc ?_ _)); refine blk_put (cs := #[.int .i64 0, .slice none 0 0]) ?_ 0 _ rfl; (with_reducible repeat (first | refine blk_drewN ?_ _ | refine blk_drew ?_ | refine blk_alloc ?_ _)); exact BK101.out) Tryz.underlying24 rfl (by kernel_rfl)) rfl ?_
            exact ⟨_, by first | rfl | (simp [errW_none, errW_some] <;> rfl) | (simp [*, errW_none, errW_some] <;> rfl), by (with_reducible repeat (first | apply Kd.S_alloc | apply Kd.S_drewN | apply Kd.S_drew)); exact Kd.S_mono (Kd.S_far (p := ⟨gb101, 1, none⟩) (Kd.S_far (p := ⟨gb101, 0, none⟩) (Kd.S_types HO_104001.out BK101.out (by decide)) (fun _ hk => hk.2) (.int .i64 a0)) (fun _ hk => hk.2) (.slice Ao35 x104001_5.length co35)) (fun _ hk => trivial), by repeat (first | (with_reducible first | exact HB.out | apply below_alloc | apply pw_below_drewN | apply below_drew1 | refine below_set ?_ GE101.out | refine below_set ?_ GE103.out) | exact HB.out)⟩
          · rw [if_neg c32] at H
            have c32b0 : (t119.toList == a1.toList) = false := beq_eq_false_iff_ne.mpr c32
            have c32b1 : (t119.toList != a1.toList) = true := bne_iff_ne.mpr c32
            simp only [Option.some.injEq, Prod.mk.injEq] at H
            obtain ⟨rfl, rfl, rfl⟩ := H
            have hnb41 := NB103_101.out
            have hnc41 := NB101_103.out
            have hcz42_0 : wc.cell? ⟨gb103, 0, none⟩ = some (.int .i64 a0) := (blk_cell BK103.out 0).trans rfl
            have hcz42_1 : wc.cell? ⟨gb103, 1, none⟩ = some (u104001) := (blk_cell BK103.out 1).trans rfl
            have hfz42_0 := blk_frozen BK103.out 0
            have hfz42_1 := blk_frozen BK103.out 1
            obtain ⟨Ao43, co43, eo43⟩ := Kd.S_slice HO_104001.out
            subst eo43
            go_wp2_with (first | ((with_reducible refine gate_callee (f := 16) rfl ?_); refine goesL_ (some 57) rfl rfl Tryz.func16 (by kernel_rfl) rfl #[.agg #[.int .i64 a0, .slice Ao43 x104001_5.length co43]] rfl (by (try simp only [List.map_toArray, List.map_cons, List.map_nil]); first | done | rfl | (simp only [List.length_drop, List.length_take]; rfl)) ?_; (with_reducible refine (impl_IsSum.calls kj5 a0 _ _ x104001_5 true _ ?side1 ?side2 A29.out).mono ?_); (case side1 => repeat (first | exact (Kd.S_reads' HO_104001.out).2.2 | (with_reducible refine Kd.C_alloc ?_ _) | (with_reducible refine Kd.C_drewN ?_ _) | (with_reducible refine Kd.C_drew ?_))); (case side2 => exact (Kd.S_reads' HO_104001.out).2.1); rintro e w44 ⟨rfl, hb⟩; refine ⟨_, rfl, ?_⟩; have n0_ := Aside0.mk (Kd.S_below (by (with_reducible repeat (first | apply Kd.S_alloc | apply Kd.S_drewN | apply Kd.S_drew)); exact HO_104001.out) hb); have n1_ := Aside0.mk (blk_below (g := gb101) (o := .cells #[.int .i64 0, .slice none 0 0] 24 (0, 0)) (by (with_reducible repeat (first | refine blk_drewN ?_ _ | refine blk_drew ?_ | refine blk_alloc ?_ _)); exact BK101.out) hb); have n2_ := Aside0.mk (blk_below (g := gb103) (o := .cells #[.int .i64 a0, .slice Ao43 x104001_5.length co43] 24 (0, 0)) (by (with_reducible repeat (first | refine blk_drewN ?_ _ | refine blk_drew ?_ | refine blk_alloc ?_ _)); exact BK103.out) hb); have n3_ := Aside0.mk (below_step (by repeat (first | (with_reducible first | exact HB.out | apply below_alloc | apply pw_below_drewN | apply below_drew1 | refine below_set ?_ GE101.out | refine below_set ?_ GE103.out) | exact HB.out)) hb); clear HO_104001; clear BK101; clear BK103; clear HB; have HO_104001 := n0_; have BK101 := n1_; have BK103 := n2_; have HB := n3_; clear n0_ n1_ n2_ n3_; (try clear hb); (try clear hb2); (try clear hk); (try clear hi); have hcz45_0 : w44.cell? ⟨gb103, 0, none⟩ = some (.int .i64 a0) := (blk_cell BK103.out 0).trans rfl; have hcz45_1 : w44.cell? ⟨gb103, 1, none⟩ = some (.slice Ao43 x104001_5.length co43) := (blk_cell BK103.out 1).trans rfl; have hfz45_0 := blk_frozen BK103.out 0; have hfz45_1 := blk_frozen BK103.out 1) | (go_at_call 17; (with_reducible refine (impl_sumText.calls kj5 a0 _ _ x104001_5 t119 _ ?side1 ?side2 A31.out).mono ?_); (case side1 => repeat (first | exact (Kd.S_reads' HO_104001.out).2.2 | (with_reducible refine Kd.C_alloc ?_ _) | (with_reducible refine Kd.C_drewN ?_ _) | (with_reducible refine Kd.C_drew ?_))); (case side2 => exact (Kd.S_reads' HO_104001.out).2.1); rintro e w46 ⟨rfl, hb⟩; have n0_ := Aside0.mk (Kd.S_below (by (with_reducible repeat (first | apply Kd.S_alloc | apply Kd.S_drewN | apply Kd.S_drew)); exact HO_104001.out) hb); have n1_ := Aside0.mk (blk_below (g := gb101) (o := .cells #[.int .i64 0, .slice none 0 0] 24 (0, 0)) (by (with_reducible repeat (first | refine blk_drewN ?_ _ | refine blk_drew ?_ | refine blk_alloc ?_ _)); exact BK101.out) hb); have n2_ := Aside0.mk (blk_below (g := gb103) (o := .cells #[.int .i64 a0, .slice Ao43 x104001_5.length co43] 24 (0, 0)) (by (with_reducible repeat (first | refine blk_drewN ?_ _ | refine blk_drew ?_ | refine blk_alloc ?_ _)); exact BK103.out) hb); have n3_ := Aside0.mk (below_step (by repeat (first | (with_reducible first | exact HB.out | apply below_alloc | apply pw_below_drewN | apply below_drew1 | refine below_set ?_ GE101.out | refine below_set ?_ GE103.out) | exact HB.out)) hb); clear HO_104001; clear BK101; clear BK103; clear HB; have HO_104001 := n0_; have BK101 := n1_; have BK103 := n2_; have HB := n3_; clear n0_ n1_ n2_ n3_; (try clear hb); (try clear hb2); (try clear hk); (try clear hi); have hcz47_0 : w46.cell? ⟨gb101, 0, none⟩ = some (.int .i64 0) := (blk_cell BK101.out 0).trans rfl; have hcz47_1 : w46.cell? ⟨gb101, 1, none⟩ = some (.slice none 0 0) := (blk_cell BK101.out 1).trans rfl; have hfz47_0 := blk_frozen BK101.out 0; have hfz47_1 := blk_frozen BK101.out 1))
            refine bodyPost_ret (results_ct rfl _ _ gb101 24 #[.int .i64 0, .slice none 0 0] (0, 0) _ rfl (by (with_reducible repeat (first | refine blk_drewN ?_ _ | refine blk_drew ?_ | refine blk_alloc ?_ _)); refine blk_put (cs := #[.int .i64 0, .slice none 0 0]) ?_ 1 _ rfl; (with_reducible repeat (first | refine blk_drewN ?_ _ | refine blk_drew ?_ | refine blk_alloc ?_ _)); refine blk_put (cs := #[.int .i64 0, .slice none 0 0]) ?_ 0 _ rfl; (with_reducible repeat (first | refine blk_drewN ?_ _ | refine blk_drew ?_ | refine blk_alloc ?_ _)); exact BK101.out) Tryz.underlying24 rfl (by kernel_rfl)) rfl ?_
            exact ⟨_, by first | rfl | (simp [errW_none, errW_some] <;> rfl) | (simp [*, errW_none, errW_some] <;> rfl), by first | exact Kd.S_nil _ _ _ _ _ | exact Kd.N_nil _ _ _ _ _ | exact Kd.V_nil _ _ _ _ _ | exact Kd.Q_nil _ _ _ _ _ | exact Kd.R_nil _ _ _ _ _, by repeat (first | (with_reducible first | exact HB.out | apply below_alloc | apply pw_below_drewN | apply below_drew1 | refine below_set ?_ GE101.out | refine below_set ?_ GE103.out) | exact HB.out)⟩
        · replace c30 := Bool.eq_false_iff.mpr c30
          subst c30
          have H1 : (some (0, ([] : List (S45)), 6)) = some (r1, r2, r3) := by rw [if_neg (show ¬ (false = true) by decide)] at H; exact H
          clear H
          have H := H1
          clear H1
          simp only [Option.some.injEq, Prod.mk.injEq] at H
          obtain ⟨rfl, rfl, rfl⟩ := H
          have hnb48 := NB103_101.out
          have hnc48 := NB101_103.out
          have hcz49_0 : wc.cell? ⟨gb103, 0, none⟩ = some (.int .i64 a0) := (blk_cell BK103.out 0).trans rfl
          have hcz49_1 : wc.cell? ⟨gb103, 1, none⟩ = some (u104001) := (blk_cell BK103.out 1).trans rfl
          have hfz49_0 := blk_frozen BK103.out 0
          have hfz49_1 := blk_frozen BK103.out 1
          obtain ⟨Ao50, co50, eo50⟩ := Kd.S_slice HO_104001.out
          subst eo50
          go_wp2_with (first | ((with_reducible refine gate_callee (f := 16) rfl ?_); refine goesL_ (some 57) rfl rfl Tryz.func16 (by kernel_rfl) rfl #[.agg #[.int .i64 a0, .slice Ao50 x104001_5.length co50]] rfl (by (try simp only [List.map_toArray, List.map_cons, List.map_nil]); first | done | rfl | (simp only [List.length_drop, List.length_take]; rfl)) ?_; (with_reducible refine (impl_IsSum.calls kj5 a0 _ _ x104001_5 false _ ?side1 ?side2 A29.out).mono ?_); (case side1 => repeat (first | exact (Kd.S_reads' HO_104001.out).2.2 | (with_reducible refine Kd.C_alloc ?_ _) | (with_reducible refine Kd.C_drewN ?_ _) | (with_reducible refine Kd.C_drew ?_))); (case side2 => exact (Kd.S_reads' HO_104001.out).2.1); rintro e w51 ⟨rfl, hb⟩; refine ⟨_, rfl, ?_⟩; have n0_ := Aside0.mk (Kd.S_below (by (with_reducible repeat (first | apply Kd.S_alloc | apply Kd.S_drewN | apply Kd.S_drew)); exact HO_104001.out) hb); have n1_ := Aside0.mk (blk_below (g := gb101) (o := .cells #[.int .i64 0, .slice none 0 0] 24 (0, 0)) (by (with_reducible repeat (first | refine blk_drewN ?_ _ | refine blk_drew ?_ | refine blk_alloc ?_ _)); exact BK101.out) hb); have n2_ := Aside0.mk (blk_below (g := gb103) (o := .cells #[.int .i64 a0, .slice Ao50 x104001_5.length co50] 24 (0, 0)) (by (with_reducible repeat (first | refine blk_drewN ?_ _ | refine blk_drew ?_ | refine blk_alloc ?_ _)); exact BK103.out) hb); have n3_ := Aside0.mk (below_step (by repeat (first | (with_reducible first | exact HB.out | apply below_alloc | apply pw_below_drewN | apply below_drew1 | refine below_set ?_ GE101.out | refine below_set ?_ GE103.out) | exact HB.out)) hb); clear HO_104001; clear BK101; clear BK103; clear HB; have HO_104001 := n0_; have BK101 := n1_; have BK103 := n2_; have HB := n3_; clear n0_ n1_ n2_ n3_; (try clear hb); (try clear hb2); (try clear hk); (try clear hi); have hcz52_0 : w51.cell? ⟨gb101, 0, none⟩ = some (.int .i64 0) := (blk_cell BK101.out 0).trans rfl; have hcz52_1 : w51.cell? ⟨gb101, 1, none⟩ = some (.slice none 0 0) := (blk_cell BK101.out 1).trans rfl; have hfz52_0 := blk_frozen BK101.out 0; have hfz52_1 := blk_frozen BK101.out 1))
          refine bodyPost_ret (results_ct rfl _ _ gb101 24 #[.int .i64 0, .slice none 0 0] (0, 0) _ rfl (by (with_reducible repeat (first | refine blk_drewN ?_ _ | refine blk_drew ?_ | refine blk_alloc ?_ _)); refine blk_put (cs := #[.int .i64 0, .slice none 0 0]) ?_ 1 _ rfl; (with_reducible repeat (first | refine blk_drewN ?_ _ | refine blk_drew ?_ | refine blk_alloc ?_ _)); refine blk_put (cs := #[.int .i64 0, .slice none 0 0]) ?_ 0 _ rfl; (with_reducible repeat (first | refine blk_drewN ?_ _ | refine blk_drew ?_ | refine blk_alloc ?_ _)); exact BK101.out) Tryz.underlying24 rfl (by kernel_rfl)) rfl ?_
          exact ⟨_, by first | rfl | (simp [errW_none, errW_some] <;> rfl) | (simp [*, errW_none, errW_some] <;> rfl), by first | exact Kd.S_nil _ _ _ _ _ | exact Kd.N_nil _ _ _ _ _ | exact Kd.V_nil _ _ _ _ _ | exact Kd.Q_nil _ _ _ _ _ | exact Kd.R_nil _ _ _ _ _, by repeat (first | (with_reducible first | exact HB.out | apply below_alloc | apply pw_below_drewN | apply below_drew1 | refine below_set ?_ GE101.out | refine below_set ?_ GE103.out) | exact HB.out)⟩
  · replace c4 := Bool.eq_false_iff.mpr c4
    subst c4
    have H1 : (some (0, ([] : List (S45)), 2)) = some (r1, r2, r3) := by rw [if_neg (show ¬ (false = true) by decide)] at H; exact H
    clear H
    have H := H1
    clear H1
    simp only [Option.some.injEq, Prod.mk.injEq] at H
    obtain ⟨rfl, rfl, rfl⟩ := H
    go_enter Tryz.func5, Tryz.ntmps5
    go_wp2_with (first | ((with_reducible refine gate_dst (N := 4) rfl ?_); refine box_event ?hg (N := 4) ?hd (cs := #[.int .i64 0, .slice none 0 0]) (t := 24) ?hr ?_; (case hd => rfl); (case hg => rfl); (case hr => first | (go_simp; done) | (go_simp; rfl)); intro gb101 hg w53 hbox hb; have n0_ := Aside0.mk (below_step (by repeat (first | (with_reducible first | exact HB.out | apply below_alloc | apply pw_below_drewN | apply below_drew1) | exact HB.out)) hb); have n1_ := Aside0.mk (hbox); have n2_ := Aside0.mk ((by rw [hg]; exact (below_size (by repeat (first | (with_reducible first | exact HB.out | apply below_alloc | apply pw_below_drewN | apply below_drew1) | exact HB.out))) : w.heap.size ≤ gb101)); have n3_ := Aside0.mk ((by rw [hg]; exact (below_size (by repeat (first | (with_reducible first | exact HB.out | apply below_alloc | apply pw_below_drewN | apply below_drew1) | exact HB.out))) : w.heap.size ≤ gb101)); clear HB; have HB := n0_; have BK101 := n1_; have GW101 := n2_; have GE101 := n3_; clear n0_ n1_ n2_ n3_; clear hb hbox hg) | ((with_reducible refine gate_callee (f := 11) rfl ?_); refine goesL_ (some 17) rfl rfl Tryz.func11 (by kernel_rfl) rfl #[.int .i64 a0] rfl (by (try simp only [List.map_toArray, List.map_cons, List.map_nil]); first | done | rfl | (simp only [List.length_drop, List.length_take]; rfl)) ?_; (with_reducible refine (impl_isPrime.calls k a0 false _ A3.out).mono ?_); rintro e w54 ⟨rfl, hb⟩; refine ⟨_, rfl, ?_⟩; have n0_ := Aside0.mk (blk_below (g := gb101) (o := .cells #[.int .i64 0, .slice none 0 0] 24 (0, 0)) (by (with_reducible repeat (first | refine blk_drewN ?_ _ | refine blk_drew ?_ | refine blk_alloc ?_ _)); exact BK101.out) hb); have n1_ := Aside0.mk (below_step (by repeat (first | (with_reducible first | exact HB.out | apply below_alloc | apply pw_below_drewN | apply below_drew1 | refine below_set ?_ GE101.out) | exact HB.out)) hb); clear BK101; clear HB; have BK101 := n0_; have HB := n1_; clear n0_ n1_; (try clear hb); (try clear hb2); (try clear hk); (try clear hi); have hcz55_0 : w54.cell? ⟨gb101, 0, none⟩ = some (.int .i64 0) := (blk_cell BK101.out 0).trans rfl; have hcz55_1 : w54.cell? ⟨gb101, 1, none⟩ = some (.slice none 0 0) := (blk_cell BK101.out 1).trans rfl; have hfz55_0 := blk_frozen BK101.out 0; have hfz55_1 := blk_frozen BK101.out 1))
    refine bodyPost_ret (results_ct rfl _ _ gb101 24 #[.int .i64 0, .slice none 0 0] (0, 0) _ rfl (by (with_reducible repeat (first | refine blk_drewN ?_ _ | refine blk_drew ?_ | refine blk_alloc ?_ _)); refine blk_put (cs := #[.int .i64 0, .slice none 0 0]) ?_ 1 _ rfl; (with_reducible repeat (first | refine blk_drewN ?_ _ | refine blk_drew ?_ | refine blk_alloc ?_ _)); refine blk_put (cs := #[.int .i64 0, .slice none 0 0]) ?_ 0 _ rfl; (with_reducible repeat (first | refine blk_drewN ?_ _ | refine blk_drew ?_ | refine blk_alloc ?_ _)); exact BK101.out) Tryz.underlying24 rfl (by kernel_rfl)) rfl ?_
    exact ⟨_, by first | rfl | (simp [errW_none, errW_some] <;> rfl) | (simp [*, errW_none, errW_some] <;> rfl), by first | exact Kd.S_nil _ _ _ _ _ | exact Kd.N_nil _ _ _ _ _ | exact Kd.V_nil _ _ _ _ _ | exact Kd.Q_nil _ _ _ _ _ | exact Kd.R_nil _ _ _ _ _, by repeat (first | (with_reducible first | exact HB.out | apply below_alloc | apply pw_below_drewN | apply below_drew1 | refine below_set ?_ GE101.out) | exact HB.out)⟩

/-! ### laws_FnExactParseSum: function 3, by hand -/
def laws_FnExactParseSum.Told (i0 : Int) (t1 : ByteArray) (k : Nat) (c m : Int) (g0 : Int) (g1 : List S45) (p1 : List S45) : Prop :=
  spec_ParseSum.f k i0 t1 = some (g0, g1, c) ∧ impl_ParseSum.f k i0 t1 = some (g0, g1, c) ∧ laws_eqSum.f k g0 g1 g0 g1 = some true ∧ laws_markSum.f k g1 1 = some (m, p1) ∧ laws_heldSum.f k g0 p1 1 = some m ∧ 0 ≤ m
set_option maxHeartbeats 16000000 in
set_option maxRecDepth 100000 in
theorem laws_FnExactParseSum.one (i0 : Int) (t1 : ByteArray) (w : World) (hG : Gl w) (hz1 : t1.size ≤ 1048576) (k : Nat) (c m : Int) (g0 : Int) (g1 : List S45) (p1 : List S45) (h : laws_FnExactParseSum.Told i0 t1 k c m g0 g1 p1) :
    Calls Tryz.prog 3 #[.int .i64 i0, .string t1] w fun e w' => e = .returned (.bool true) ∧ Below w.heap.size w w' := by
  have HG := Aside0.mk hG
  clear hG
  have huB := Tryz.underlying24
  obtain ⟨h_FS, h_FI, h_FE, h_FM, h_FH, hb_0⟩ := h
  have FS := Aside0.mk h_FS
  clear h_FS
  have FI := Aside0.mk h_FI
  clear h_FI
  have FE := Aside0.mk h_FE
  clear h_FE
  have FM := Aside0.mk h_FM
  clear h_FM
  have FH := Aside0.mk h_FH
  clear h_FH
  have d3 : decide (m < 0) = false := decide_eq_false (by omega)
  have da1 : decide (1048576 < t1.size) = false := decide_eq_false (by omega)
  have db1 : decide ((1048576 : Int) < (t1.size : Int)) = false := decide_eq_false (by omega)
  clear hb_0
  clear hz1
  go_enter Tryz.func3, Tryz.ntmps3
  have BQ := Aside0.mk (Below.refl w.heap.size w)
  go_wp2_with fail
  refine (spec_ParseSum.calls k i0 t1 g0 g1 c _  FS.out).mono ?_
  rintro e w1 ⟨u1, rfl, o1, hb⟩
  have Rs_1 := Aside0.mk o1
  have Bs := Aside0.mk hb
  clear o1 hb
  obtain ⟨As_1, cs_1, rfl⟩ := Kd.S_slice Rs_1.out
  have n_ := Aside0.mk (below_step BQ.out Bs.out)
  clear BQ
  have BQ := n_
  clear n_
  have BW0 := BQ
  clear BQ
  have K0_1 := Aside0.mk (Kd.S_reads' Rs_1.out).2.2
  have LE1 := Aside0.mk (Kd.S_reads' Rs_1.out).2.1
  clear Rs_1
  have zWa0_0 : (w1.alloc (.cells #[.int .i64 g0, .slice As_1 g1.length cs_1] 24)).cell? ⟨w1.heap.size, 0, none⟩ = some (.int .i64 g0) := (blk_cell (blk_new _ _) 0).trans rfl
  have zWa0_1 : (w1.alloc (.cells #[.int .i64 g0, .slice As_1 g1.length cs_1] 24)).cell? ⟨w1.heap.size, 1, none⟩ = some (.slice As_1 g1.length cs_1) := (blk_cell (blk_new _ _) 1).trans rfl
  go_wp2_with fail
  obtain ⟨wr, hwr_⟩ : ∃ x_ : World, w1.alloc (.cells #[.int .i64 g0, .slice As_1 g1.length cs_1] 24) = x_ := ⟨_, rfl⟩
  rw [hwr_]
  have Bwr : Aside0 (Below w1.heap.size w1 wr) := ⟨by rw [← hwr_]; exact below_alloc (Below.refl _ _) _⟩
  have BKW : Aside0 (wr.heap[w1.heap.size]? = some (.cells #[.int .i64 g0, .slice As_1 g1.length cs_1] 24 (0, 0))) := ⟨by rw [← hwr_]; exact blk_new _ _⟩
  clear hwr_
  have sWwr := blk_lt BKW.out
  have BW := Aside0.mk (below_step BW0.out Bwr.out)
  have K1 := Aside0.mk (Kd.C_below K0_1.out Bwr.out)
  clear K0_1
  have BR := Aside0.mk (Below.refl wr.heap.size wr)
  have zx := BR.out.size
  refine (impl_ParseSum.calls k i0 t1 g0 g1 c _ (Gl.below (Gl.below HG.out BW.out) BR.out) FI.out).mono ?_
  rintro e w2 ⟨u1, rfl, o1, hb⟩
  clear zWa0_0 zWa0_1
  have Rg_1 := Aside0.mk o1
  have Bg := Aside0.mk hb
  clear o1 hb
  obtain ⟨Ag_1, cg_1, rfl⟩ := Kd.S_slice Rg_1.out
  have n_ := Aside0.mk (below_step BR.out Bg.out)
  clear BR
  have BR := n_
  clear n_
  have n_ := Aside0.mk (blk_below BKW.out Bg.out)
  clear BKW
  have BKW := n_
  clear n_
  have n_ := Aside0.mk (Kd.S_mono (ok' := fun k_ => (wr.heap.size ≤ k_ ∧ k_ < w2.heap.size) ∧ (True)) (Kd.S_bound Rg_1.out) (fun k_ h_ => ⟨⟨h_.2.1, h_.2.2.1⟩, h_.1⟩))
  clear Rg_1
  have Rg_1 := n_
  clear n_
  have zg := Bg.out.size
  have zW_0 : w2.cell? ⟨w1.heap.size, 0, none⟩ = some (.int .i64 g0) := (blk_cell (BKW.out) 0).trans rfl
  have zW_1 : w2.cell? ⟨w1.heap.size, 1, none⟩ = some (.slice As_1 g1.length cs_1) := (blk_cell (BKW.out) 1).trans rfl
  have zWa0_0 : (w2.alloc (.cells #[.int .i64 g0, .slice Ag_1 g1.length cg_1] 24)).cell? ⟨w1.heap.size, 0, none⟩ = some (.int .i64 g0) := (blk_cell (blk_alloc BKW.out _) 0).trans rfl
  have zWa0_1 : (w2.alloc (.cells #[.int .i64 g0, .slice Ag_1 g1.length cg_1] 24)).cell? ⟨w1.heap.size, 1, none⟩ = some (.slice As_1 g1.length cs_1) := (blk_cell (blk_alloc BKW.out _) 1).trans rfl
  have zGa0_0 : (w2.alloc (.cells #[.int .i64 g0, .slice Ag_1 g1.length cg_1] 24)).cell? ⟨w2.heap.size, 0, none⟩ = some (.int .i64 g0) := (blk_cell (blk_new _ _) 0).trans rfl
  have zGa0_1 : (w2.alloc (.cells #[.int .i64 g0, .slice Ag_1 g1.length cg_1] 24)).cell? ⟨w2.heap.size, 1, none⟩ = some (.slice Ag_1 g1.length cg_1) := (blk_cell (blk_new _ _) 1).trans rfl
  go_wp2_with fail
  obtain ⟨wg, hwg_⟩ : ∃ x_ : World, w2.alloc (.cells #[.int .i64 g0, .slice Ag_1 g1.length cg_1] 24) = x_ := ⟨_, rfl⟩
  rw [hwg_]
  have Bwg : Aside0 (Below w2.heap.size w2 wg) := ⟨by rw [← hwg_]; exact below_alloc (Below.refl _ _) _⟩
  have BKG : Aside0 (wg.heap[w2.heap.size]? = some (.cells #[.int .i64 g0, .slice Ag_1 g1.length cg_1] 24 (0, 0))) := ⟨by rw [← hwg_]; exact blk_new _ _⟩
  clear hwg_
  have n_ := Aside0.mk (blk_below BKW.out Bwg.out)
  clear BKW
  have BKW := n_
  clear n_
  have sWwg := blk_lt BKW.out
  have sGwg := blk_lt BKG.out
  have n_ := Aside0.mk (below_step BR.out Bwg.out)
  clear BR
  have BR := n_
  clear n_
  have n_ := Aside0.mk (Kd.S_below Rg_1.out Bwg.out)
  clear Rg_1
  have Rg_1 := n_
  clear n_
  refine (laws_eqSum.calls k g0 _ _ g1 g0 _ _ g1 true _ (Kd.S_reads' Rg_1.out).2.2 (Kd.S_reads' Rg_1.out).2.1 (Kd.C_below K1.out BR.out) LE1.out FE.out).mono ?_
  rintro e w3 ⟨rfl, hb⟩
  clear zW_0 zW_1 zWa0_0 zWa0_1 zGa0_0 zGa0_1
  have Be3 := Aside0.mk (hb)
  clear hb
  have n_ := Aside0.mk (below_step BR.out Be3.out)
  clear BR
  have BR := n_
  clear n_
  have n_ := Aside0.mk (Kd.S_below Rg_1.out Be3.out)
  clear Rg_1
  have Rg_1 := n_
  clear n_
  have n_ := Aside0.mk (blk_below BKW.out Be3.out)
  clear BKW
  have BKW := n_
  clear n_
  have n_ := Aside0.mk (blk_below BKG.out Be3.out)
  clear BKG
  have BKG := n_
  clear n_
  have n_ := Aside0.mk (Kd.S_lower Rg_1.out zx)
  clear Rg_1
  have Rg_1 := n_
  clear n_
  have zW_0 : w3.cell? ⟨w1.heap.size, 0, none⟩ = some (.int .i64 g0) := (blk_cell (BKW.out) 0).trans rfl
  have zW_1 : w3.cell? ⟨w1.heap.size, 1, none⟩ = some (.slice As_1 g1.length cs_1) := (blk_cell (BKW.out) 1).trans rfl
  have zG_0 : w3.cell? ⟨w2.heap.size, 0, none⟩ = some (.int .i64 g0) := (blk_cell (BKG.out) 0).trans rfl
  have zG_1 : w3.cell? ⟨w2.heap.size, 1, none⟩ = some (.slice Ag_1 g1.length cg_1) := (blk_cell (BKG.out) 1).trans rfl
  go_wp2_with fail
  refine (laws_markSum.calls k _ g0 _ g1 1 m p1 wr _ BR.out Rg_1.out FM.out).mono ?_
  rintro e w4 ⟨rfl, o1, hb, hk⟩
  clear zW_0 zW_1 zG_0 zG_1
  have BRn := Aside0.mk hb
  clear hb BR
  have BR := BRn
  clear BRn
  have Rm_1 := Aside0.mk o1
  clear o1
  have n_ := Aside0.mk (blk_kept BKW.out hk (fun hs_ => by have := hs_.1; omega))
  clear BKW
  have BKW := n_
  clear n_
  have n_ := Aside0.mk (blk_kept BKG.out hk (fun hs_ => by have := hs_.1; omega))
  clear BKG
  have BKG := n_
  clear n_
  clear hk
  clear Rg_1
  have zW_0 : w4.cell? ⟨w1.heap.size, 0, none⟩ = some (.int .i64 g0) := (blk_cell (BKW.out) 0).trans rfl
  have zW_1 : w4.cell? ⟨w1.heap.size, 1, none⟩ = some (.slice As_1 g1.length cs_1) := (blk_cell (BKW.out) 1).trans rfl
  have zG_0 : w4.cell? ⟨w2.heap.size, 0, none⟩ = some (.int .i64 g0) := (blk_cell (BKG.out) 0).trans rfl
  have zG_1 : w4.cell? ⟨w2.heap.size, 1, none⟩ = some (.slice Ag_1 g1.length cg_1) := (blk_cell (BKG.out) 1).trans rfl
  go_wp2_with fail
  have e1_ := (Kd.S_reads' Rm_1.out).1
  have hh_ := laws_heldSum.calls k g0 _ _ p1 1 m _ (Kd.S_reads' Rm_1.out).2.2 (by rw [← e1_]; exact (Kd.S_reads' Rm_1.out).2.1) FH.out
  rw [← e1_] at hh_
  clear e1_
  refine hh_.mono ?_
  clear hh_
  rintro e w5 ⟨rfl, hb⟩
  clear zW_0 zW_1 zG_0 zG_1
  have Bh5 := Aside0.mk (hb)
  clear hb
  have n_ := Aside0.mk (below_step BR.out Bh5.out)
  clear BR
  have BR := n_
  clear n_
  have n_ := Aside0.mk (Kd.S_below Rm_1.out Bh5.out)
  clear Rm_1
  have Rm_1 := n_
  clear n_
  have n_ := Aside0.mk (blk_below BKW.out Bh5.out)
  clear BKW
  have BKW := n_
  clear n_
  have n_ := Aside0.mk (blk_below BKG.out Bh5.out)
  clear BKG
  have BKG := n_
  clear n_
  have zW_0 : w5.cell? ⟨w1.heap.size, 0, none⟩ = some (.int .i64 g0) := (blk_cell (BKW.out) 0).trans rfl
  have zW_1 : w5.cell? ⟨w1.heap.size, 1, none⟩ = some (.slice As_1 g1.length cs_1) := (blk_cell (BKW.out) 1).trans rfl
  have zG_0 : w5.cell? ⟨w2.heap.size, 0, none⟩ = some (.int .i64 g0) := (blk_cell (BKG.out) 0).trans rfl
  have zG_1 : w5.cell? ⟨w2.heap.size, 1, none⟩ = some (.slice Ag_1 g1.length cg_1) := (blk_cell (BKG.out) 1).trans rfl
  go_wp2_with fail
  refine (impl_ParseSum.calls k i0 t1 g0 g1 c _ (Gl.below (Gl.below HG.out BW.out) BR.out) FI.out).mono ?_
  rintro e w6 ⟨u1, rfl, o1, hb⟩
  clear zW_0 zW_1 zG_0 zG_1
  have Ry_1 := Aside0.mk o1
  have By := Aside0.mk hb
  clear o1 hb
  obtain ⟨Ay_1, cy_1, rfl⟩ := Kd.S_slice Ry_1.out
  have n_ := Aside0.mk (below_step BR.out By.out)
  clear BR
  have BR := n_
  clear n_
  have n_ := Aside0.mk (Kd.S_below Rm_1.out By.out)
  clear Rm_1
  have Rm_1 := n_
  clear n_
  have n_ := Aside0.mk (blk_below BKW.out By.out)
  clear BKW
  have BKW := n_
  clear n_
  have n_ := Aside0.mk (blk_below BKG.out By.out)
  clear BKG
  have BKG := n_
  clear n_
  have zW_0 : w6.cell? ⟨w1.heap.size, 0, none⟩ = some (.int .i64 g0) := (blk_cell (BKW.out) 0).trans rfl
  have zW_1 : w6.cell? ⟨w1.heap.size, 1, none⟩ = some (.slice As_1 g1.length cs_1) := (blk_cell (BKW.out) 1).trans rfl
  have zG_0 : w6.cell? ⟨w2.heap.size, 0, none⟩ = some (.int .i64 g0) := (blk_cell (BKG.out) 0).trans rfl
  have zG_1 : w6.cell? ⟨w2.heap.size, 1, none⟩ = some (.slice Ag_1 g1.length cg_1) := (blk_cell (BKG.out) 1).trans rfl
  have zWa0_0 : (w6.alloc (.cells #[.int .i64 g0, .slice Ay_1 g1.length cy_1] 24)).cell? ⟨w1.heap.size, 0, none⟩ = some (.int .i64 g0) := (blk_cell (blk_alloc BKW.out _) 0).trans rfl
  have zWa0_1 : (w6.alloc (.cells #[.int .i64 g0, .slice Ay_1 g1.length cy_1] 24)).cell? ⟨w1.heap.size, 1, none⟩ = some (.slice As_1 g1.length cs_1) := (blk_cell (blk_alloc BKW.out _) 1).trans rfl
  have zGa0_0 : (w6.alloc (.cells #[.int .i64 g0, .slice Ay_1 g1.length cy_1] 24)).cell? ⟨w2.heap.size, 0, none⟩ = some (.int .i64 g0) := (blk_cell (blk_alloc BKG.out _) 0).trans rfl
  have zGa0_1 : (w6.alloc (.cells #[.int .i64 g0, .slice Ay_1 g1.length cy_1] 24)).cell? ⟨w2.heap.size, 1, none⟩ = some (.slice Ag_1 g1.length cg_1) := (blk_cell (blk_alloc BKG.out _) 1).trans rfl
  have zYa0_0 : (w6.alloc (.cells #[.int .i64 g0, .slice Ay_1 g1.length cy_1] 24)).cell? ⟨w6.heap.size, 0, none⟩ = some (.int .i64 g0) := (blk_cell (blk_new _ _) 0).trans rfl
  have zYa0_1 : (w6.alloc (.cells #[.int .i64 g0, .slice Ay_1 g1.length cy_1] 24)).cell? ⟨w6.heap.size, 1, none⟩ = some (.slice Ay_1 g1.length cy_1) := (blk_cell (blk_new _ _) 1).trans rfl
  go_wp2_with fail
  obtain ⟨wy, hwy_⟩ : ∃ x_ : World, w6.alloc (.cells #[.int .i64 g0, .slice Ay_1 g1.length cy_1] 24) = x_ := ⟨_, rfl⟩
  rw [hwy_]
  have Bwy : Aside0 (Below w6.heap.size w6 wy) := ⟨by rw [← hwy_]; exact below_alloc (Below.refl _ _) _⟩
  have BKY : Aside0 (wy.heap[w6.heap.size]? = some (.cells #[.int .i64 g0, .slice Ay_1 g1.length cy_1] 24 (0, 0))) := ⟨by rw [← hwy_]; exact blk_new _ _⟩
  clear hwy_
  have n_ := Aside0.mk (blk_below BKW.out Bwy.out)
  clear BKW
  have BKW := n_
  clear n_
  have n_ := Aside0.mk (blk_below BKG.out Bwy.out)
  clear BKG
  have BKG := n_
  clear n_
  have sWwy := blk_lt BKW.out
  have sGwy := blk_lt BKG.out
  have sYwy := blk_lt BKY.out
  have n_ := Aside0.mk (below_step BR.out Bwy.out)
  clear BR
  have BR := n_
  clear n_
  have n_ := Aside0.mk (Kd.S_below Rm_1.out Bwy.out)
  clear Rm_1
  have Rm_1 := n_
  clear n_
  have n_ := Aside0.mk (Kd.S_below Ry_1.out Bwy.out)
  clear Ry_1
  have Ry_1 := n_
  clear n_
  refine (laws_eqSum.calls k g0 _ _ g1 g0 _ _ g1 true _ (Kd.S_reads' Ry_1.out).2.2 (Kd.S_reads' Ry_1.out).2.1 (Kd.C_below K1.out BR.out) LE1.out FE.out).mono ?_
  rintro e w7 ⟨rfl, hb⟩
  clear zW_0 zW_1 zG_0 zG_1 zWa0_0 zWa0_1 zGa0_0 zGa0_1 zYa0_0 zYa0_1
  have Be7 := Aside0.mk (hb)
  clear hb
  have n_ := Aside0.mk (below_step BR.out Be7.out)
  clear BR
  have BR := n_
  clear n_
  have n_ := Aside0.mk (Kd.S_below Rm_1.out Be7.out)
  clear Rm_1
  have Rm_1 := n_
  clear n_
  have n_ := Aside0.mk (Kd.S_below Ry_1.out Be7.out)
  clear Ry_1
  have Ry_1 := n_
  clear n_
  have n_ := Aside0.mk (blk_below BKW.out Be7.out)
  clear BKW
  have BKW := n_
  clear n_
  have n_ := Aside0.mk (blk_below BKG.out Be7.out)
  clear BKG
  have BKG := n_
  clear n_
  have n_ := Aside0.mk (blk_below BKY.out Be7.out)
  clear BKY
  have BKY := n_
  clear n_
  clear Ry_1
  have zW_0 : w7.cell? ⟨w1.heap.size, 0, none⟩ = some (.int .i64 g0) := (blk_cell (BKW.out) 0).trans rfl
  have zW_1 : w7.cell? ⟨w1.heap.size, 1, none⟩ = some (.slice As_1 g1.length cs_1) := (blk_cell (BKW.out) 1).trans rfl
  have zG_0 : w7.cell? ⟨w2.heap.size, 0, none⟩ = some (.int .i64 g0) := (blk_cell (BKG.out) 0).trans rfl
  have zG_1 : w7.cell? ⟨w2.heap.size, 1, none⟩ = some (.slice Ag_1 g1.length cg_1) := (blk_cell (BKG.out) 1).trans rfl
  have zY_0 : w7.cell? ⟨w6.heap.size, 0, none⟩ = some (.int .i64 g0) := (blk_cell (BKY.out) 0).trans rfl
  have zY_1 : w7.cell? ⟨w6.heap.size, 1, none⟩ = some (.slice Ay_1 g1.length cy_1) := (blk_cell (BKY.out) 1).trans rfl
  go_wp2_with fail
  have e1_ := (Kd.S_reads' Rm_1.out).1
  have hh_ := laws_heldSum.calls k g0 _ _ p1 1 m _ (Kd.S_reads' Rm_1.out).2.2 (by rw [← e1_]; exact (Kd.S_reads' Rm_1.out).2.1) FH.out
  rw [← e1_] at hh_
  clear e1_
  refine hh_.mono ?_
  clear hh_
  rintro e w8 ⟨rfl, hb⟩
  clear zW_0 zW_1 zG_0 zG_1 zY_0 zY_1
  have Bh8 := Aside0.mk (hb)
  clear hb
  have n_ := Aside0.mk (below_step BR.out Bh8.out)
  clear BR
  have BR := n_
  clear n_
  have n_ := Aside0.mk (Kd.S_below Rm_1.out Bh8.out)
  clear Rm_1
  have Rm_1 := n_
  clear n_
  have n_ := Aside0.mk (blk_below BKW.out Bh8.out)
  clear BKW
  have BKW := n_
  clear n_
  have n_ := Aside0.mk (blk_below BKG.out Bh8.out)
  clear BKG
  have BKG := n_
  clear n_
  have n_ := Aside0.mk (blk_below BKY.out Bh8.out)
  clear BKY
  have BKY := n_
  clear n_
  go_wp2
  go_ret
  exact ⟨rfl, (below_then BW.out BW.out.size BR.out)⟩
def laws_FnExactParseSum.Pure : Prop := ∀ (i0 : Int) (t1 : ByteArray), (Lit.int .i64 i0).wf = true → t1.size ≤ 1048576 → ∃ k c m g0 g1 p1, laws_FnExactParseSum.Told i0 t1 k c m g0 g1 p1
set_option maxHeartbeats 4000000 in
theorem laws_FnExactParseSum.early (i0 : Int) (t1 : ByteArray) (w : World) (hs0 : 1048576 < t1.size) :
    Calls Tryz.prog 3 #[.int .i64 i0, .string t1] w fun e w' => e = .returned (.bool true) ∧ Below w.heap.size w w' := by
  have d1 : decide (1048576 < t1.size) = true := decide_eq_true hs0
  have d2 : decide ((1048576 : Int) < (t1.size : Int)) = true := decide_eq_true (by omega)
  go_enter Tryz.func3, Tryz.ntmps3
  go_wp2
  go_ret
  exact ⟨rfl, Below.refl _ _⟩
theorem laws_FnExactParseSum.walk (P : laws_FnExactParseSum.Pure) (i0 : Int) (t1 : ByteArray) (w : World) (hG : Gl w) (wi0 : (Lit.int .i64 i0).wf = true) :
    Calls Tryz.prog 3 #[.int .i64 i0, .string t1] w fun e w' => e = .returned (.bool true) ∧ Below w.heap.size w w' := by
  by_cases hs : t1.size ≤ 1048576
  · obtain ⟨k, c, m, g0, g1, p1, h⟩ := P i0 t1 wi0 hs
    exact laws_FnExactParseSum.one i0 t1 w hG hs k c m g0 g1 p1 h
  · exact laws_FnExactParseSum.early i0 t1 w (by omega)

end Go.Proofs.YtflpdjmdkdgijaaGreatDoor.G
