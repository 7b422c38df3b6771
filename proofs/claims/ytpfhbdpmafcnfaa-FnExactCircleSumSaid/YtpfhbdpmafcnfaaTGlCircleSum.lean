-- Written by the session's program mk.py (which runs the kit's print.py over functions and over contracts given by hand).
import Derived.Test.YtpfhbdpmafcnfaaTG0
import Derived.Test.YtpfhbdpmafcnfaaTG105
import Derived.Test.YtpfhbdpmafcnfaaTG77
import Derived.Test.YtpfhbdpmafcnfaaTGgA
import Derived.Test.YtpfhbdpmafcnfaaTGgC
import Derived.Test.YtpfhbdpmafcnfaaTGgD
import Derived.Test.YtpfhbdpmafcnfaaTGgK
import Derived.Test.YtpfhbdpmafcnfaaTGgQ
import Derived.Test.YtpfhbdpmafcnfaaTGgW
import Derived.Test.YtpfhbdpmafcnfaaTGgZ
import Derived.Test.YtpfhbdpmafcnfaaTPlainR
namespace Go.Proofs.Ytpfhbdpmafcnfaa.G
open Go.RowKit Go.Maps Go.Proofs.YtpfhbdpmafcnfaaW.PrintWords Go.Proofs.YtpfhbdpmafcnfaaW.PrintLast Go.Proofs.YtpfhbdpmafcnfaaW.PrintMore
attribute [local go_sem] max2_int min2_int max_two min_two max_three min_three max_four min_four   -- for this text's walks alone
set_option linter.unusedVariables false
set_option linter.unusedSimpArgs false
open Go.Proofs.Ytpfhbdpmafcnfaa.Plain
def spec_CircleSum.f (k : Nat) (a0_0 : Int) (l0_1 : List (S89)) : Option (Int × (List (S89)) × Int) := (spec_l03Is.f k a0_0 l0_1).bind fun t103 => (if t103 = true then ((spec_l03Circle.f k a0_0 l0_1).bind fun bt104 => (some (bt104.1, bt104.2, 0))) else (some (0, ([] : List (S89)), 1)))
set_option maxHeartbeats 8000000 in
set_option maxRecDepth 100000 in
theorem spec_CircleSum.calls (k : Nat) (a0_0 : Int) (A0_1 : Option Addr) (c0_1 : Nat) (l0_1 : List (S89)) (r1 : Int) (r2 : List (S89)) (r3 : Int) (w : World) (hr0_1 : Kd.C k89 w A0_1 l0_1.length l0_1) (hc0_1 : l0_1.length ≤ c0_1) (h : spec_CircleSum.f k a0_0 l0_1 = some (r1, r2, r3)) :
  Calls Try.prog 52 #[.agg #[.int .i64 a0_0, .slice A0_1 l0_1.length c0_1]] w fun e w' => ∃ v1_ : Value, e = .returned (.tuple #[.agg #[.int .i64 r1, v1_], .int .i64 r3]) ∧ Kd.S k89 89 w' w.heap.size (fun _ => True) v1_ r2 ∧ Below w.heap.size w w' := by
 have hu49 := Try.underlying49
 have HR0_1 := Aside0.mk hr0_1
 have HC0_1 := Aside0.mk hc0_1
 clear hr0_1 hc0_1
 have HB := Aside0.mk (Below.refl w.heap.size w)
 have H : ((spec_l03Is.f k a0_0 l0_1).bind fun t103 => (if t103 = true then ((spec_l03Circle.f k a0_0 l0_1).bind fun bt104 => (some (bt104.1, bt104.2, 0))) else (some (0, ([] : List (S89)), 1)))) = some (r1, r2, r3) := h
 clear h
 replace H := Option.bind_eq_some_iff.mp H
 obtain ⟨t103, A20, H⟩ := H
 replace H : (if t103 = true then ((spec_l03Circle.f k a0_0 l0_1).bind fun bt104 => (some (bt104.1, bt104.2, 0))) else (some (0, ([] : List (S89)), 1))) = some (r1, r2, r3) := H
 have A2 := Aside0.mk A20
 clear A20
 by_cases c3 : t103 = true
 case neg =>
  replace c3 := Bool.eq_false_iff.mpr c3
  subst c3
  have H1 : (some (0, ([] : List (S89)), 1)) = some (r1, r2, r3) := by rw [if_neg (show ¬ (false = true) by decide)] at H; exact H
  clear H
  have H := H1
  clear H1
  simp only [Option.some.injEq, Prod.mk.injEq] at H
  obtain ⟨rfl, rfl, rfl⟩ := H
  go_enter Try.func52, Try.ntmps52
  go_wp2_with (first | ((with_reducible refine gate_dst (N := 1) rfl ?_); refine box_event ?hg (N := 1) ?hd (cs := #[.int .i64 a0_0, .slice A0_1 l0_1.length c0_1]) (t := 49) ?hr ?_; (case hd => rfl); (case hg => rfl); (case hr => first | (go_simp; done) | (go_simp; rfl)); intro gb101 hg w14 hbox hb; have BK101 := Aside0.mk (hbox); have GW101 := Aside0.mk ((by rw [hg]; exact (below_size (by repeat (first | (with_reducible first | exact HB.out | apply below_alloc | apply pw_below_drewN | apply below_drew1) | exact HB.out))) : w.heap.size ≤ gb101)); have GE101 := Aside0.mk ((by rw [hg]; exact (below_size (by repeat (first | (with_reducible first | exact HB.out | apply below_alloc | apply pw_below_drewN | apply below_drew1) | exact HB.out))) : w.heap.size ≤ gb101)); replace HB := Aside0.mk (below_step (by repeat (first | (with_reducible first | exact HB.out | apply below_alloc | apply pw_below_drewN | apply below_drew1) | exact HB.out)) hb); clear hb hbox hg) | ((with_reducible refine gate_dst (N := 2) rfl ?_); refine box_event ?hg (N := 2) ?hd (cs := #[.int .i64 0, .slice none 0 0]) (t := 49) ?hr ?_; (case hd => rfl); (case hg => rfl); (case hr => first | (go_simp; done) | (go_simp; rfl)); intro gb102 hg w15 hbox hb; have BK102 := Aside0.mk (hbox); have GW102 := Aside0.mk ((by rw [hg]; exact (below_size (by repeat (first | (with_reducible first | exact HB.out | apply below_alloc | apply pw_below_drewN | apply below_drew1 | refine below_set ?_ GE101.out) | exact HB.out))) : w.heap.size ≤ gb102)); have GE102 := Aside0.mk ((by rw [hg]; exact (below_size (by repeat (first | (with_reducible first | exact HB.out | apply below_alloc | apply pw_below_drewN | apply below_drew1 | refine below_set ?_ GE101.out) | exact HB.out))) : w.heap.size ≤ gb102)); replace HB := Aside0.mk (below_step (by repeat (first | (with_reducible first | exact HB.out | apply below_alloc | apply pw_below_drewN | apply below_drew1 | refine below_set ?_ GE101.out) | exact HB.out)) hb); have NB101_102 := Aside0.mk ((by rw [hg]; exact Nat.ne_of_lt (blk_lt (g := gb101) (o := .cells #[.int .i64 a0_0, .slice A0_1 l0_1.length c0_1] 49 (0, 0)) (by (with_reducible repeat (first | refine blk_drewN ?_ _ | refine blk_drew ?_ | refine blk_alloc ?_ _)); exact BK101.out)) : gb101 ≠ gb102)); have NB102_101 := Aside0.mk ((by rw [hg]; exact Nat.ne_of_gt (blk_lt (g := gb101) (o := .cells #[.int .i64 a0_0, .slice A0_1 l0_1.length c0_1] 49 (0, 0)) (by (with_reducible repeat (first | refine blk_drewN ?_ _ | refine blk_drew ?_ | refine blk_alloc ?_ _)); exact BK101.out)) : gb102 ≠ gb101)); replace BK101 := Aside0.mk (blk_below (g := gb101) (o := .cells #[.int .i64 a0_0, .slice A0_1 l0_1.length c0_1] 49 (0, 0)) (by (with_reducible repeat (first | refine blk_drewN ?_ _ | refine blk_drew ?_ | refine blk_alloc ?_ _)); exact BK101.out) hb); clear hb hbox hg; have hnb16 := NB101_102.out; have hnc16 := NB102_101.out; have hcz17_0 : w15.cell? ⟨gb101, 0, none⟩ = some (.int .i64 a0_0) := (blk_cell BK101.out 0).trans rfl; have hcz17_1 : w15.cell? ⟨gb101, 1, none⟩ = some (.slice A0_1 l0_1.length c0_1) := (blk_cell BK101.out 1).trans rfl; have hfz17_0 := blk_frozen BK101.out 0; have hfz17_1 := blk_frozen BK101.out 1) | ((with_reducible refine gate_callee (f := 77) rfl ?_); refine goesL_ (some 5) rfl rfl Try.func77 (by kernel_rfl) rfl #[.agg #[.int .i64 a0_0, .slice A0_1 l0_1.length c0_1]] rfl (by (try simp only [List.map_toArray, List.map_cons, List.map_nil]); first | done | rfl | (simp only [List.length_drop, List.length_take]; rfl)) ?_; (with_reducible refine (spec_l03Is.calls k a0_0 _ _ l0_1 false _ ?side1 ?side2 A2.out).mono ?_); (case side1 => repeat (first | exact (Kd.C_below HR0_1.out HB.out) | (with_reducible refine Kd.C_alloc ?_ _) | (with_reducible refine Kd.C_drewN ?_ _) | (with_reducible refine Kd.C_drew ?_))); (case side2 => exact HC0_1.out); rintro e w18 ⟨rfl, hb⟩; refine ⟨_, rfl, ?_⟩; replace BK101 := Aside0.mk (blk_below (g := gb101) (o := .cells #[.int .i64 a0_0, .slice A0_1 l0_1.length c0_1] 49 (0, 0)) (by (with_reducible repeat (first | refine blk_drewN ?_ _ | refine blk_drew ?_ | refine blk_alloc ?_ _)); exact BK101.out) hb); replace BK102 := Aside0.mk (blk_below (g := gb102) (o := .cells #[.int .i64 0, .slice none 0 0] 49 (0, 0)) (by (with_reducible repeat (first | refine blk_drewN ?_ _ | refine blk_drew ?_ | refine blk_alloc ?_ _)); exact BK102.out) hb); replace HB := Aside0.mk (below_step (by repeat (first | (with_reducible first | exact HB.out | apply below_alloc | apply pw_below_drewN | apply below_drew1 | refine below_set ?_ GE101.out | refine below_set ?_ GE102.out) | exact HB.out)) hb); (try clear hb); (try clear hb2); (try clear hk); (try clear hi); have hcz19_0 : w18.cell? ⟨gb102, 0, none⟩ = some (.int .i64 0) := (blk_cell BK102.out 0).trans rfl; have hcz19_1 : w18.cell? ⟨gb102, 1, none⟩ = some (.slice none 0 0) := (blk_cell BK102.out 1).trans rfl; have hfz19_0 := blk_frozen BK102.out 0; have hfz19_1 := blk_frozen BK102.out 1))
  refine bodyPost_ret (results_ct rfl _ _ gb102 49 #[.int .i64 0, .slice none 0 0] (0, 0) _ rfl (by (with_reducible repeat (first | refine blk_drewN ?_ _ | refine blk_drew ?_ | refine blk_alloc ?_ _)); refine blk_put (cs := #[.int .i64 0, .slice none 0 0]) ?_ 1 _ rfl; (with_reducible repeat (first | refine blk_drewN ?_ _ | refine blk_drew ?_ | refine blk_alloc ?_ _)); refine blk_put (cs := #[.int .i64 0, .slice none 0 0]) ?_ 0 _ rfl; (with_reducible repeat (first | refine blk_drewN ?_ _ | refine blk_drew ?_ | refine blk_alloc ?_ _)); exact BK102.out) Try.underlying49 rfl (by kernel_rfl)) rfl ?_
  exact ⟨_, by first | rfl | (simp [errW_none, errW_some] <;> rfl) | (simp [*, errW_none, errW_some] <;> rfl), by first | exact Kd.S_nil _ _ _ _ _ | exact Kd.N_nil _ _ _ _ _ | exact Kd.V_nil _ _ _ _ _ | exact Kd.Q_nil _ _ _ _ _ | exact Kd.R_nil _ _ _ _ _, by repeat (first | (with_reducible first | exact HB.out | apply below_alloc | apply pw_below_drewN | apply below_drew1 | refine below_set ?_ GE101.out | refine below_set ?_ GE102.out) | exact HB.out)⟩
 subst c3
 have H1 : ((spec_l03Circle.f k a0_0 l0_1).bind fun bt104 => (some (bt104.1, bt104.2, 0))) = some (r1, r2, r3) := by rw [if_pos rfl] at H; exact H
 clear H
 have H := H1
 clear H1
 replace H := Option.bind_eq_some_iff.mp H
 obtain ⟨⟨t104, t105⟩, A40, H⟩ := H
 replace H : (some (t104, t105, 0)) = some (r1, r2, r3) := H
 have A4 := Aside0.mk A40
 clear A40
 simp only [Option.some.injEq, Prod.mk.injEq] at H
 obtain ⟨rfl, rfl, rfl⟩ := H
 go_enter Try.func52, Try.ntmps52
 go_wp2_with (first | ((with_reducible refine gate_dst (N := 1) rfl ?_); refine box_event ?hg (N := 1) ?hd (cs := #[.int .i64 a0_0, .slice A0_1 l0_1.length c0_1]) (t := 49) ?hr ?_; (case hd => rfl); (case hg => rfl); (case hr => first | (go_simp; done) | (go_simp; rfl)); intro gb101 hg w5 hbox hb; have BK101 := Aside0.mk (hbox); have GW101 := Aside0.mk ((by rw [hg]; exact (below_size (by repeat (first | (with_reducible first | exact HB.out | apply below_alloc | apply pw_below_drewN | apply below_drew1) | exact HB.out))) : w.heap.size ≤ gb101)); have GE101 := Aside0.mk ((by rw [hg]; exact (below_size (by repeat (first | (with_reducible first | exact HB.out | apply below_alloc | apply pw_below_drewN | apply below_drew1) | exact HB.out))) : w.heap.size ≤ gb101)); replace HB := Aside0.mk (below_step (by repeat (first | (with_reducible first | exact HB.out | apply below_alloc | apply pw_below_drewN | apply below_drew1) | exact HB.out)) hb); clear hb hbox hg) | ((with_reducible refine gate_dst (N := 2) rfl ?_); refine box_event ?hg (N := 2) ?hd (cs := #[.int .i64 0, .slice none 0 0]) (t := 49) ?hr ?_; (case hd => rfl); (case hg => rfl); (case hr => first | (go_simp; done) | (go_simp; rfl)); intro gb102 hg w6 hbox hb; have BK102 := Aside0.mk (hbox); have GW102 := Aside0.mk ((by rw [hg]; exact (below_size (by repeat (first | (with_reducible first | exact HB.out | apply below_alloc | apply pw_below_drewN | apply below_drew1 | refine below_set ?_ GE101.out) | exact HB.out))) : w.heap.size ≤ gb102)); have GE102 := Aside0.mk ((by rw [hg]; exact (below_size (by repeat (first | (with_reducible first | exact HB.out | apply below_alloc | apply pw_below_drewN | apply below_drew1 | refine below_set ?_ GE101.out) | exact HB.out))) : w.heap.size ≤ gb102)); replace HB := Aside0.mk (below_step (by repeat (first | (with_reducible first | exact HB.out | apply below_alloc | apply pw_below_drewN | apply below_drew1 | refine below_set ?_ GE101.out) | exact HB.out)) hb); have NB101_102 := Aside0.mk ((by rw [hg]; exact Nat.ne_of_lt (blk_lt (g := gb101) (o := .cells #[.int .i64 a0_0, .slice A0_1 l0_1.length c0_1] 49 (0, 0)) (by (with_reducible repeat (first | refine blk_drewN ?_ _ | refine blk_drew ?_ | refine blk_alloc ?_ _)); exact BK101.out)) : gb101 ≠ gb102)); have NB102_101 := Aside0.mk ((by rw [hg]; exact Nat.ne_of_gt (blk_lt (g := gb101) (o := .cells #[.int .i64 a0_0, .slice A0_1 l0_1.length c0_1] 49 (0, 0)) (by (with_reducible repeat (first | refine blk_drewN ?_ _ | refine blk_drew ?_ | refine blk_alloc ?_ _)); exact BK101.out)) : gb102 ≠ gb101)); replace BK101 := Aside0.mk (blk_below (g := gb101) (o := .cells #[.int .i64 a0_0, .slice A0_1 l0_1.length c0_1] 49 (0, 0)) (by (with_reducible repeat (first | refine blk_drewN ?_ _ | refine blk_drew ?_ | refine blk_alloc ?_ _)); exact BK101.out) hb); clear hb hbox hg; have hnb7 := NB101_102.out; have hnc7 := NB102_101.out; have hcz8_0 : w6.cell? ⟨gb101, 0, none⟩ = some (.int .i64 a0_0) := (blk_cell BK101.out 0).trans rfl; have hcz8_1 : w6.cell? ⟨gb101, 1, none⟩ = some (.slice A0_1 l0_1.length c0_1) := (blk_cell BK101.out 1).trans rfl; have hfz8_0 := blk_frozen BK101.out 0; have hfz8_1 := blk_frozen BK101.out 1) | ((with_reducible refine gate_callee (f := 77) rfl ?_); refine goesL_ (some 5) rfl rfl Try.func77 (by kernel_rfl) rfl #[.agg #[.int .i64 a0_0, .slice A0_1 l0_1.length c0_1]] rfl (by (try simp only [List.map_toArray, List.map_cons, List.map_nil]); first | done | rfl | (simp only [List.length_drop, List.length_take]; rfl)) ?_; (with_reducible refine (spec_l03Is.calls k a0_0 _ _ l0_1 true _ ?side1 ?side2 A2.out).mono ?_); (case side1 => repeat (first | exact (Kd.C_below HR0_1.out HB.out) | (with_reducible refine Kd.C_alloc ?_ _) | (with_reducible refine Kd.C_drewN ?_ _) | (with_reducible refine Kd.C_drew ?_))); (case side2 => exact HC0_1.out); rintro e w9 ⟨rfl, hb⟩; refine ⟨_, rfl, ?_⟩; replace BK101 := Aside0.mk (blk_below (g := gb101) (o := .cells #[.int .i64 a0_0, .slice A0_1 l0_1.length c0_1] 49 (0, 0)) (by (with_reducible repeat (first | refine blk_drewN ?_ _ | refine blk_drew ?_ | refine blk_alloc ?_ _)); exact BK101.out) hb); replace BK102 := Aside0.mk (blk_below (g := gb102) (o := .cells #[.int .i64 0, .slice none 0 0] 49 (0, 0)) (by (with_reducible repeat (first | refine blk_drewN ?_ _ | refine blk_drew ?_ | refine blk_alloc ?_ _)); exact BK102.out) hb); replace HB := Aside0.mk (below_step (by repeat (first | (with_reducible first | exact HB.out | apply below_alloc | apply pw_below_drewN | apply below_drew1 | refine below_set ?_ GE101.out | refine below_set ?_ GE102.out) | exact HB.out)) hb); (try clear hb); (try clear hb2); (try clear hk); (try clear hi); have hcz10_0 : w9.cell? ⟨gb101, 0, none⟩ = some (.int .i64 a0_0) := (blk_cell BK101.out 0).trans rfl; have hcz10_1 : w9.cell? ⟨gb101, 1, none⟩ = some (.slice A0_1 l0_1.length c0_1) := (blk_cell BK101.out 1).trans rfl; have hfz10_0 := blk_frozen BK101.out 0; have hfz10_1 := blk_frozen BK101.out 1) | ((with_reducible refine gate_callee (f := 105) rfl ?_); refine goesL_ (some 9) rfl rfl Try.func105 (by kernel_rfl) rfl #[.agg #[.int .i64 a0_0, .slice A0_1 l0_1.length c0_1]] rfl (by (try simp only [List.map_toArray, List.map_cons, List.map_nil]); first | done | rfl | (simp only [List.length_drop, List.length_take]; rfl)) ?_; (with_reducible refine (spec_l03Circle.calls k a0_0 _ _ l0_1 t104 t105 _ ?side1 ?side2 A4.out).mono ?_); (case side1 => repeat (first | exact (Kd.C_below HR0_1.out HB.out) | (with_reducible refine Kd.C_alloc ?_ _) | (with_reducible refine Kd.C_drewN ?_ _) | (with_reducible refine Kd.C_drew ?_))); (case side2 => exact HC0_1.out); rintro e w11 ⟨v106, rfl, ho0, hb⟩; refine ⟨_, rfl, ?_⟩; have HO107 := Aside0.mk (Kd.S_lower ho0 (below_size (by repeat (first | (with_reducible first | exact HB.out | apply below_alloc | apply pw_below_drewN | apply below_drew1 | refine below_set ?_ GE101.out | refine below_set ?_ GE102.out) | exact HB.out)))); replace BK101 := Aside0.mk (blk_below (g := gb101) (o := .cells #[.int .i64 a0_0, .slice A0_1 l0_1.length c0_1] 49 (0, 0)) (by (with_reducible repeat (first | refine blk_drewN ?_ _ | refine blk_drew ?_ | refine blk_alloc ?_ _)); exact BK101.out) hb); replace BK102 := Aside0.mk (blk_below (g := gb102) (o := .cells #[.int .i64 0, .slice none 0 0] 49 (0, 0)) (by (with_reducible repeat (first | refine blk_drewN ?_ _ | refine blk_drew ?_ | refine blk_alloc ?_ _)); exact BK102.out) hb); replace HB := Aside0.mk (below_step (by repeat (first | (with_reducible first | exact HB.out | apply below_alloc | apply pw_below_drewN | apply below_drew1 | refine below_set ?_ GE101.out | refine below_set ?_ GE102.out) | exact HB.out)) hb); (try clear hb); (try clear hb2); (try clear hk); (try clear hi); (try clear ho0); have hcz12_0 : w11.cell? ⟨gb102, 0, none⟩ = some (.int .i64 0) := (blk_cell BK102.out 0).trans rfl; have hcz12_1 : w11.cell? ⟨gb102, 1, none⟩ = some (.slice none 0 0) := (blk_cell BK102.out 1).trans rfl; have hfz12_0 := blk_frozen BK102.out 0; have hfz12_1 := blk_frozen BK102.out 1; obtain ⟨Ao13, co13, eo13⟩ := Kd.S_slice HO107.out; subst eo13))
 refine bodyPost_ret (results_ct rfl _ _ gb102 49 #[.int .i64 t104, .slice Ao13 t105.length co13] (0, 0) _ rfl (by (with_reducible repeat (first | refine blk_drewN ?_ _ | refine blk_drew ?_ | refine blk_alloc ?_ _)); refine blk_put (cs := #[.int .i64 t104, .slice none 0 0]) ?_ 1 _ rfl; (with_reducible repeat (first | refine blk_drewN ?_ _ | refine blk_drew ?_ | refine blk_alloc ?_ _)); refine blk_put (cs := #[.int .i64 0, .slice none 0 0]) ?_ 0 _ rfl; (with_reducible repeat (first | refine blk_drewN ?_ _ | refine blk_drew ?_ | refine blk_alloc ?_ _)); exact BK102.out) Try.underlying49 rfl (by kernel_rfl)) rfl ?_
 exact ⟨_, by first | rfl | (simp [errW_none, errW_some] <;> rfl) | (simp [*, errW_none, errW_some] <;> rfl), by (with_reducible repeat (first | apply Kd.S_alloc | apply Kd.S_drewN | apply Kd.S_drew)); exact Kd.S_mono (Kd.S_far (p := ⟨gb102, 1, none⟩) (Kd.S_far (p := ⟨gb102, 0, none⟩) (Kd.S_types HO107.out BK102.out (by decide)) (fun _ hk => hk.2) (.int .i64 t104)) (fun _ hk => hk.2) (.slice Ao13 t105.length co13)) (fun _ hk => trivial), by repeat (first | (with_reducible first | exact HB.out | apply below_alloc | apply pw_below_drewN | apply below_drew1 | refine below_set ?_ GE101.out | refine below_set ?_ GE102.out) | exact HB.out)⟩
set_option maxHeartbeats 4000000 in
set_option maxRecDepth 100000 in
theorem impl_circle.calls (p : Int) (A : Option Addr) (c : Nat) (xs : List S89) (w : World) (hr : Kd.C k89 w A xs.length xs) (hc : xs.length ≤ c) (hp : 0 < p ∧ p ≤ 1000) (hl : xs.length ≤ 1000) (ho : ∀ x ∈ xs, okW (leastL x.f0) ∧ (-1000000 ≤ x.f1 ∧ x.f1 ≤ 1000000)) (hf : ∀ x ∈ xs, ∃ k, impl_least.f k x.f0 = some (leastL x.f0)) :
  Calls Try.prog 106 #[.agg #[.int .i64 p, .slice A xs.length c]] w fun e w' => ∃ v, e = .returned (.agg #[.int .i64 p, v]) ∧ Kd.S k89 89 w' w.heap.size (fun _ => True) v (nzT (chgZ p (fun l => oneT p (leastL l)) [] xs)) ∧ Below w.heap.size w w' := by
 have hu49 := Try.underlying49
 have HR := Aside0.mk hr
 have HC := Aside0.mk hc
 have HP := Aside0.mk hp
 have HL := Aside0.mk hl
 have HO := Aside0.mk ho
 have HF := Aside0.mk hf
 have k4 := blk_new (w.alloc (.cells #[.int .i64 p, .slice A xs.length c] 49)) (.cells #[.int .i64 0, .slice none 0 0] 49)
 have s4 : (w.alloc (.cells #[.int .i64 p, .slice A xs.length c] 49)).heap.size = w.heap.size + 1 := by simp
 rw [s4] at k4
 have KR0 := Aside0.mk k4
 have HB0 := Aside0.mk (below_alloc (below_alloc (Below.refl w.heap.size w) (.cells #[.int .i64 p, .slice A xs.length c] 49)) (.cells #[.int .i64 0, .slice none 0 0] 49))
 clear hr hc hp hl ho hf k4 s4
 obtain ⟨yy, hyy⟩ : ∃ y_ : List S89, y_ = nzT (chgZ p (fun l => oneT p (leastL l)) [] xs) := ⟨_, rfl⟩
 rw [← hyy]
 have NY := Aside0.mk hyy
 clear hyy
 go_enter Try.func106, Try.ntmps106
 go_wp2_with fail
 generalize (w.alloc (.cells #[.int .i64 p, .slice A xs.length c] 49)).alloc (.cells #[.int .i64 0, .slice none 0 0] 49) = w1 at KR0 HB0 ⊢
 refine (impl_renamed.calls 138 Try.f138 Try.func138 (by kernel_rfl) rfl #[] (fun l => leastL l) p A c xs w1 (Kd.C_below HR.out HB0.out) HC.out HP.out HL.out HO.out ?_).mono ?_
 ·intro x A' c' w' hx hb hC hcc
  obtain ⟨k, hk⟩ := HF.out x hx
  show Calls Try.prog 138 #[.slice A' x.f0.length c'] w' _
  exact (impl_least.calls k (fun k_ => k_ < w'.heap.size) _ _ x.f0 _ w' (⟨A', c', rfl, hcc, Kd.C_F (Kd.heap_int .i64) hC⟩ : Kd.V (Kd.int .i64) 2 w' w'.heap.size (fun k_ => k_ < w'.heap.size) (.slice A' x.f0.length c') x.f0) hk).mono fun e w2 ⟨v2, he, h2, h3⟩ => ⟨v2, he, Kd.R_mono h2 (fun _ _ => trivial), h3⟩
 rintro e w5 ⟨v5, rfl, hS5, hb5⟩
 have HS5 := Aside0.mk (Kd.S_lower hS5 HB0.out.size)
 have HB5 := Aside0.mk (below_step HB0.out hb5)
 have KR5 := Aside0.mk (blk_below KR0.out hb5)
 clear hS5 hb5
 obtain ⟨B4, e4⟩ : ∃ x, x = w.heap.size + 1 := ⟨_, rfl⟩
 have g4 : w.heap.size ≤ B4 := by omega
 rw [← e4] at KR5 ⊢
 clear e4
 rw [← NY.out] at HS5
 have hq0 : w5.cell? ⟨B4, 0, none⟩ = some (.int .i64 0) := (blk_cell KR5.out 0).trans rfl
 have hq1 : w5.cell? ⟨B4, 1, none⟩ = some (.slice none 0 0) := (blk_cell KR5.out 1).trans rfl
 have hf0 := blk_frozen KR5.out 0
 have hf1 := blk_frozen KR5.out 1
 obtain ⟨Au, cu, eu⟩ := Kd.S_slice HS5.out
 subst eu
 go_wp2
 refine bodyPost_ret (results_cell_row rfl _ _ B4 49 #[.int .i64 p, .slice Au yy.length cu] (0, 0) _ rfl (by refine blk_put (cs := #[.int .i64 p, .slice none 0 0]) ?_ 1 _ rfl; refine blk_put (cs := #[.int .i64 0, .slice none 0 0]) ?_ 0 _ rfl; exact KR5.out) Try.underlying49 rfl (by kernel_rfl)) rfl ?_
 exact ⟨_, rfl, Kd.S_set (Kd.S_set HS5.out KR5.out (by decide) 0 _) (blk_put KR5.out 0 _ rfl) (by decide) 1 _, below_set (below_set HB5.out g4) g4⟩
open Classical in
noncomputable def impl_CircleSum.f (k : Nat) (p : Int) (xs : List S89) : Option (Int × List S89 × Int) := (impl_IsSum.f k p xs).bind fun b => if b = true then (if (0 < p ∧ p ≤ 1000) ∧ xs.length ≤ 1000 ∧ (∀ x ∈ xs, okW (leastL x.f0) ∧ (-1000000 ≤ x.f1 ∧ x.f1 ≤ 1000000)) ∧ (∀ x ∈ xs, ∃ k, impl_least.f k x.f0 = some (leastL x.f0)) then some (limR p (nzT (chgZ p (fun l => oneT p (leastL l)) [] xs))) else none) else some (0, [], 1)
set_option maxHeartbeats 4000000 in
set_option maxRecDepth 100000 in
theorem impl_CircleSum.calls (k : Nat) (p : Int) (A : Option Addr) (c : Nat) (xs : List S89) (r1 : Int) (r2 : List S89) (r3 : Int) (w : World) (hr : Kd.C k89 w A xs.length xs) (hc : xs.length ≤ c) (h : impl_CircleSum.f k p xs = some (r1, r2, r3)) :
  Calls Try.prog 53 #[.agg #[.int .i64 p, .slice A xs.length c]] w fun e w' => ∃ v, e = .returned (.tuple #[.agg #[.int .i64 r1, v], .int .i64 r3]) ∧ Kd.S k89 89 w' w.heap.size (fun _ => True) v r2 ∧ Below w.heap.size w w' := by
 unfold impl_CircleSum.f at h
 obtain ⟨b, hs, h⟩ := Option.bind_eq_some_iff.mp h
 obtain ⟨R, hR, hcl⟩ : ∃ R, csR b p R = (r1, r2, r3) ∧ (b = true → ∀ w' : World, Below w.heap.size w w' → Calls Try.prog 106 #[.agg #[.int .i64 p, .slice A xs.length c]] w' fun e w'' => ∃ v, e = .returned (.agg #[.int .i64 p, v]) ∧ Kd.S k89 89 w'' w'.heap.size (fun _ => True) v R ∧ Below w'.heap.size w' w'') := by
  cases b
  ·rw [if_neg (by simp)] at h
   exact ⟨[], Option.some.inj h, fun h => by cases h⟩
  rw [if_pos rfl] at h
  split at h
  ·rename_i hq
   exact ⟨_, Option.some.inj h, fun _ w' hb => impl_circle.calls p A c xs w' (Kd.C_below hr hb) hc hq.1 hq.2.1 hq.2.2.1 hq.2.2.2⟩
  cases h
 have hu49 := Try.underlying49
 have HR := Aside0.mk hr
 have HC := Aside0.mk hc
 have HS := Aside0.mk hs
 have HCL := Aside0.mk hcl
 have HCR := Aside0.mk hR
 have k4 := blk_new (w.alloc (.cells #[.int .i64 p, .slice A xs.length c] 49)) (.cells #[.int .i64 0, .slice none 0 0] 49)
 have s4 : (w.alloc (.cells #[.int .i64 p, .slice A xs.length c] 49)).heap.size = w.heap.size + 1 := by simp
 rw [s4] at k4
 have KR0 := Aside0.mk k4
 have HB0 := Aside0.mk (below_alloc (below_alloc (Below.refl w.heap.size w) (.cells #[.int .i64 p, .slice A xs.length c] 49)) (.cells #[.int .i64 0, .slice none 0 0] 49))
 clear hr hc hs hcl hR h k4 s4
 go_enter Try.func53, Try.ntmps53
 go_wp2_with fail
 generalize (w.alloc (.cells #[.int .i64 p, .slice A xs.length c] 49)).alloc (.cells #[.int .i64 0, .slice none 0 0] 49) = w1 at KR0 HB0 ⊢
 refine (impl_changedSum.calls 106 Try.f106 Try.func106 (by kernel_rfl) rfl k p A c xs b R w1 (Kd.C_below HR.out HB0.out) HC.out HS.out (fun h w' hb => HCL.out h w' (below_step HB0.out hb))).mono ?_
 rw [HCR.out]
 rintro e w5 ⟨v5, rfl, hS5, hb5⟩
 have HS5 := Aside0.mk (show Kd.S k89 89 w5 w.heap.size (fun _ => True) v5 r2 from Kd.S_lower hS5 HB0.out.size)
 have HB5 := Aside0.mk (below_step HB0.out hb5)
 have KR5 := Aside0.mk (blk_below KR0.out hb5)
 clear hS5 hb5
 obtain ⟨B4, e4⟩ : ∃ x, x = w.heap.size + 1 := ⟨_, rfl⟩
 have g4 : w.heap.size ≤ B4 := by omega
 rw [← e4] at KR5 ⊢
 clear e4
 have hq0 : w5.cell? ⟨B4, 0, none⟩ = some (.int .i64 0) := (blk_cell KR5.out 0).trans rfl
 have hq1 : w5.cell? ⟨B4, 1, none⟩ = some (.slice none 0 0) := (blk_cell KR5.out 1).trans rfl
 have hf0 := blk_frozen KR5.out 0
 have hf1 := blk_frozen KR5.out 1
 obtain ⟨Au, cu, eu⟩ := Kd.S_slice HS5.out
 subst eu
 go_wp2
 refine bodyPost_ret (results_ct rfl _ _ B4 49 #[.int .i64 r1, .slice Au r2.length cu] (0, 0) _ rfl (by refine blk_put (cs := #[.int .i64 r1, .slice none 0 0]) ?_ 1 _ rfl; refine blk_put (cs := #[.int .i64 0, .slice none 0 0]) ?_ 0 _ rfl; exact KR5.out) Try.underlying49 rfl (by kernel_rfl)) rfl ?_
 exact ⟨_, rfl, Kd.S_set (Kd.S_set HS5.out KR5.out (by decide) 0 _) (blk_put KR5.out 0 _ rfl) (by decide) 1 _, below_set (below_set HB5.out g4) g4⟩
theorem laws_FnExactCircleSum.range {w0 W w' : World} {v : Value} {r : List S89} (h : Kd.S k89 89 w' W.heap.size (fun _ => True) v r) (hb : w0.heap.size ≤ W.heap.size) : Kd.S k89 89 w' w0.heap.size (fun k_ => W.heap.size ≤ k_ ∧ k_ < w'.heap.size) v r := Kd.S_lower (Kd.S_mono (Kd.S_bound h) (fun k_ h_ => ⟨h_.2.1, h_.2.2.1⟩)) hb
def laws_FnExactCircleSum.Told (z0 : Int) (l0 : List S110) (k : Nat) (c m g0 : Int) (g1 p1 : List S89) (s0 m10 : Int) (y0 q0 : List S89) : Prop :=
 laws_toSum.f k z0 l0 = some (z0, y0) ∧ laws_eqSum.f k z0 y0 z0 y0 = some true ∧ laws_szSum.f k z0 l0 1048576 = some s0 ∧ spec_CircleSum.f k z0 y0 = some (g0, g1, c) ∧ impl_CircleSum.f k z0 y0 = some (g0, g1, c) ∧ laws_eqSum.f k g0 g1 g0 g1 = some true ∧ laws_markSum.f k y0 1 = some (m10, q0) ∧ laws_markSum.f k g1 1 = some (m, p1) ∧ laws_heldSum.f k g0 p1 1 = some m ∧ 0 ≤ m ∧ 0 ≤ m10 ∧ 0 ≤ s0
set_option maxHeartbeats 16000000 in
set_option maxRecDepth 100000 in
theorem laws_FnExactCircleSum.one (A0 : Option Addr) (c0 : Nat) (z0 : Int) (l0 : List S110) (w : World) (hr0 : Kd.C k110 w A0 l0.length l0) (hc0 : l0.length ≤ c0) (k : Nat) (c m g0 : Int) (g1 p1 : List S89) (s0 m10 : Int) (y0 q0 : List S89) (h : laws_FnExactCircleSum.Told z0 l0 k c m g0 g1 p1 s0 m10 y0 q0) :
  Calls Try.prog 15 #[.agg #[.int .i64 z0, .slice A0 l0.length c0]] w fun e w' => e = .returned (.bool true) ∧ Below w.heap.size w w' := by
 have huB := Try.underlying49
 have huA := Try.underlying44
 obtain ⟨h_FT0, h_FQ0, h_FZ0, h_FS, h_FI, h_FE, h_FK0, h_FM, h_FH, hb_0, hb_1, hb_2⟩ := h
 have FT0 := Aside0.mk h_FT0
 clear h_FT0
 have FQ0 := Aside0.mk h_FQ0
 clear h_FQ0
 have FZ0 := Aside0.mk h_FZ0
 clear h_FZ0
 have FS := Aside0.mk h_FS
 clear h_FS
 have FI := Aside0.mk h_FI
 clear h_FI
 have FE := Aside0.mk h_FE
 clear h_FE
 have FK0 := Aside0.mk h_FK0
 clear h_FK0
 have FM := Aside0.mk h_FM
 clear h_FM
 have FH := Aside0.mk h_FH
 clear h_FH
 have d3 : decide (m < 0) = false := decide_eq_false (by omega)
 have d2 : decide (m10 < 0) = false := decide_eq_false (by omega)
 have ds0 : decide (s0 < 0) = false := decide_eq_false (by omega)
 clear hb_0 hb_1 hb_2
 have HB := Aside0.mk (Below.refl w.heap.size w)
 have HA0 := Aside0.mk hr0
 have HC0 := Aside0.mk hc0
 clear hr0 hc0
 have HW0 := HB
 go_enter Try.func15, Try.ntmps15
 have hn_P0_0 : (w.alloc (.cells #[.int .i64 z0, .slice A0 l0.length c0] 44)).cell? ⟨w.heap.size, 0, none⟩ = some (.int .i64 z0) := (blk_cell (blk_new w (.cells #[.int .i64 z0, .slice A0 l0.length c0] 44)) 0).trans rfl
 have hn_P0_1 : (w.alloc (.cells #[.int .i64 z0, .slice A0 l0.length c0] 44)).cell? ⟨w.heap.size, 1, none⟩ = some (.slice A0 l0.length c0) := (blk_cell (blk_new w (.cells #[.int .i64 z0, .slice A0 l0.length c0] 44)) 1).trans rfl
 go_wp2_with fail
 obtain ⟨w1, h_⟩ : ∃ x_ : World, w.alloc (.cells #[.int .i64 z0, .slice A0 l0.length c0] 44) = x_ := ⟨_, rfl⟩
 rw [h_]
 have B_ : Aside0 (Below w.heap.size w w1) := ⟨by rw [← h_]; exact below_alloc (Below.refl _ _) _⟩
 have KP0 : Aside0 (w1.heap[w.heap.size]? = some (.cells #[.int .i64 z0, .slice A0 l0.length c0] 44 (0, 0))) := ⟨by rw [← h_]; exact blk_new _ _⟩
 clear h_
 replace HB := Aside0.mk (below_step HB.out B_.out)
 have Z0 := Aside0.mk (B_.out).size
 clear B_
 have Z1 := Aside0.mk (blk_lt KP0.out)
 refine (laws_szSum.calls k z0 _ _ l0 1048576 s0 _ (Kd.C_below HA0.out HB.out) HC0.out FZ0.out).mono ?_
 rintro e w2 ⟨rfl, hb⟩
 clear hn_P0_0 hn_P0_1
 have B_ := Aside0.mk hb
 clear hb
 replace KP0 := Aside0.mk (blk_below KP0.out B_.out)
 replace HB := Aside0.mk (below_step HB.out B_.out)
 have Z2 := Aside0.mk (B_.out).size
 clear B_
 have hz_P0_0_0 : w2.cell? ⟨w.heap.size, 0, none⟩ = some (.int .i64 z0) := (blk_cell (KP0.out) 0).trans rfl
 have hz_P0_1_1 : w2.cell? ⟨w.heap.size, 1, none⟩ = some (.slice A0 l0.length c0) := (blk_cell (KP0.out) 1).trans rfl
 go_wp2_with fail
 refine (laws_toSum.calls k z0 _ _ l0 z0 y0 _ (Kd.C_below HA0.out HB.out) HC0.out FT0.out).mono ?_
 rintro e w3 ⟨v_, rfl, ho, hb⟩
 clear hz_P0_0_0 hz_P0_1_1
 have Sa0_ := Aside0.mk (laws_FnExactCircleSum.range ho HB.out.size)
 have B_ := Aside0.mk hb
 clear ho hb
 replace KP0 := Aside0.mk (blk_below KP0.out B_.out)
 replace HB := Aside0.mk (below_step HB.out B_.out)
 have Z3 := Aside0.mk (B_.out).size
 clear B_
 have Sa0 := Sa0_
 clear Sa0_
 obtain ⟨Aa0, ca0, e_⟩ := Kd.S_slice Sa0.out
 subst e_
 have hz_P0_0_0 : w3.cell? ⟨w.heap.size, 0, none⟩ = some (.int .i64 z0) := (blk_cell (KP0.out) 0).trans rfl
 have hz_P0_1_1 : w3.cell? ⟨w.heap.size, 1, none⟩ = some (.slice A0 l0.length c0) := (blk_cell (KP0.out) 1).trans rfl
 go_wp2_with fail
 refine (spec_CircleSum.calls k z0 _ _ y0 g0 g1 c _ (Kd.S_reads' Sa0.out).2.2 (Kd.S_reads' Sa0.out).2.1 FS.out).mono ?_
 rintro e w4 ⟨v_, rfl, ho, hb⟩
 clear hz_P0_0_0 hz_P0_1_1
 have SW_ := Aside0.mk (laws_FnExactCircleSum.range ho HB.out.size)
 have B_ := Aside0.mk hb
 clear ho hb
 replace KP0 := Aside0.mk (blk_below KP0.out B_.out)
 replace Sa0 := Aside0.mk (Kd.S_below Sa0.out B_.out)
 replace HB := Aside0.mk (below_step HB.out B_.out)
 have Z4 := Aside0.mk (B_.out).size
 clear B_
 have SW := SW_
 clear SW_
 obtain ⟨AW, cW, e_⟩ := Kd.S_slice SW.out
 subst e_
 clear Sa0
 have hz_P0_0_0 : w4.cell? ⟨w.heap.size, 0, none⟩ = some (.int .i64 z0) := (blk_cell (KP0.out) 0).trans rfl
 have hz_P0_1_1 : w4.cell? ⟨w.heap.size, 1, none⟩ = some (.slice A0 l0.length c0) := (blk_cell (KP0.out) 1).trans rfl
 have ha0_P0_0 : (w4.alloc (.cells #[.int .i64 g0, .slice AW g1.length cW] 49)).cell? ⟨w.heap.size, 0, none⟩ = some (.int .i64 z0) := (blk_cell (blk_alloc (KP0.out) _) 0).trans rfl
 have ha0_P0_1 : (w4.alloc (.cells #[.int .i64 g0, .slice AW g1.length cW] 49)).cell? ⟨w.heap.size, 1, none⟩ = some (.slice A0 l0.length c0) := (blk_cell (blk_alloc (KP0.out) _) 1).trans rfl
 have hn_W_0 : (w4.alloc (.cells #[.int .i64 g0, .slice AW g1.length cW] 49)).cell? ⟨w4.heap.size, 0, none⟩ = some (.int .i64 g0) := (blk_cell (blk_new w4 (.cells #[.int .i64 g0, .slice AW g1.length cW] 49)) 0).trans rfl
 have hn_W_1 : (w4.alloc (.cells #[.int .i64 g0, .slice AW g1.length cW] 49)).cell? ⟨w4.heap.size, 1, none⟩ = some (.slice AW g1.length cW) := (blk_cell (blk_new w4 (.cells #[.int .i64 g0, .slice AW g1.length cW] 49)) 1).trans rfl
 go_wp2_with fail
 obtain ⟨w5, h_⟩ : ∃ x_ : World, w4.alloc (.cells #[.int .i64 g0, .slice AW g1.length cW] 49) = x_ := ⟨_, rfl⟩
 rw [h_]
 have B_ : Aside0 (Below w4.heap.size w4 w5) := ⟨by rw [← h_]; exact below_alloc (Below.refl _ _) _⟩
 have KW : Aside0 (w5.heap[w4.heap.size]? = some (.cells #[.int .i64 g0, .slice AW g1.length cW] 49 (0, 0))) := ⟨by rw [← h_]; exact blk_new _ _⟩
 clear h_
 replace KP0 := Aside0.mk (blk_below KP0.out B_.out)
 replace SW := Aside0.mk (Kd.S_below SW.out B_.out)
 replace HB := Aside0.mk (below_step HB.out B_.out)
 have Z5 := Aside0.mk (B_.out).size
 clear B_
 have Z6 := Aside0.mk (blk_lt KW.out)
 refine (laws_toSum.calls k z0 _ _ l0 z0 y0 _ (Kd.C_below HA0.out HB.out) HC0.out FT0.out).mono ?_
 rintro e w6 ⟨v_, rfl, ho, hb⟩
 clear hz_P0_0_0 hz_P0_1_1 ha0_P0_0 ha0_P0_1 hn_W_0 hn_W_1
 have Sx0_ := Aside0.mk (laws_FnExactCircleSum.range ho HB.out.size)
 have B_ := Aside0.mk hb
 clear ho hb
 replace KP0 := Aside0.mk (blk_below KP0.out B_.out)
 replace KW := Aside0.mk (blk_below KW.out B_.out)
 replace SW := Aside0.mk (Kd.S_below SW.out B_.out)
 replace HB := Aside0.mk (below_step HB.out B_.out)
 have Z7 := Aside0.mk (B_.out).size
 clear B_
 have Sx0 := Sx0_
 clear Sx0_
 obtain ⟨Ax0, cx0, e_⟩ := Kd.S_slice Sx0.out
 subst e_
 have hz_P0_0_0 : w6.cell? ⟨w.heap.size, 0, none⟩ = some (.int .i64 z0) := (blk_cell (KP0.out) 0).trans rfl
 have hz_P0_1_1 : w6.cell? ⟨w.heap.size, 1, none⟩ = some (.slice A0 l0.length c0) := (blk_cell (KP0.out) 1).trans rfl
 have hz_W_0_2 : w6.cell? ⟨w4.heap.size, 0, none⟩ = some (.int .i64 g0) := (blk_cell (KW.out) 0).trans rfl
 have hz_W_1_3 : w6.cell? ⟨w4.heap.size, 1, none⟩ = some (.slice AW g1.length cW) := (blk_cell (KW.out) 1).trans rfl
 have ha0_P0_0 : (w6.alloc (.cells #[.int .i64 z0, .slice Ax0 y0.length cx0] 49)).cell? ⟨w.heap.size, 0, none⟩ = some (.int .i64 z0) := (blk_cell (blk_alloc (KP0.out) _) 0).trans rfl
 have ha0_P0_1 : (w6.alloc (.cells #[.int .i64 z0, .slice Ax0 y0.length cx0] 49)).cell? ⟨w.heap.size, 1, none⟩ = some (.slice A0 l0.length c0) := (blk_cell (blk_alloc (KP0.out) _) 1).trans rfl
 have ha0_W_0 : (w6.alloc (.cells #[.int .i64 z0, .slice Ax0 y0.length cx0] 49)).cell? ⟨w4.heap.size, 0, none⟩ = some (.int .i64 g0) := (blk_cell (blk_alloc (KW.out) _) 0).trans rfl
 have ha0_W_1 : (w6.alloc (.cells #[.int .i64 z0, .slice Ax0 y0.length cx0] 49)).cell? ⟨w4.heap.size, 1, none⟩ = some (.slice AW g1.length cW) := (blk_cell (blk_alloc (KW.out) _) 1).trans rfl
 have hn_X0_0 : (w6.alloc (.cells #[.int .i64 z0, .slice Ax0 y0.length cx0] 49)).cell? ⟨w6.heap.size, 0, none⟩ = some (.int .i64 z0) := (blk_cell (blk_new w6 (.cells #[.int .i64 z0, .slice Ax0 y0.length cx0] 49)) 0).trans rfl
 have hn_X0_1 : (w6.alloc (.cells #[.int .i64 z0, .slice Ax0 y0.length cx0] 49)).cell? ⟨w6.heap.size, 1, none⟩ = some (.slice Ax0 y0.length cx0) := (blk_cell (blk_new w6 (.cells #[.int .i64 z0, .slice Ax0 y0.length cx0] 49)) 1).trans rfl
 go_wp2_with fail
 obtain ⟨w7, h_⟩ : ∃ x_ : World, w6.alloc (.cells #[.int .i64 z0, .slice Ax0 y0.length cx0] 49) = x_ := ⟨_, rfl⟩
 rw [h_]
 have B_ : Aside0 (Below w6.heap.size w6 w7) := ⟨by rw [← h_]; exact below_alloc (Below.refl _ _) _⟩
 have KX0 : Aside0 (w7.heap[w6.heap.size]? = some (.cells #[.int .i64 z0, .slice Ax0 y0.length cx0] 49 (0, 0))) := ⟨by rw [← h_]; exact blk_new _ _⟩
 clear h_
 replace KP0 := Aside0.mk (blk_below KP0.out B_.out)
 replace KW := Aside0.mk (blk_below KW.out B_.out)
 replace SW := Aside0.mk (Kd.S_below SW.out B_.out)
 replace Sx0 := Aside0.mk (Kd.S_below Sx0.out B_.out)
 replace HB := Aside0.mk (below_step HB.out B_.out)
 have Z8 := Aside0.mk (B_.out).size
 clear B_
 have Z9 := Aside0.mk (blk_lt KX0.out)
 refine (impl_CircleSum.calls k z0 _ _ y0 g0 g1 c _ (Kd.S_reads' Sx0.out).2.2 (Kd.S_reads' Sx0.out).2.1 FI.out).mono ?_
 rintro e w8 ⟨v_, rfl, ho, hb⟩
 clear hz_P0_0_0 hz_P0_1_1 hz_W_0_2 hz_W_1_3 ha0_P0_0 ha0_P0_1 ha0_W_0 ha0_W_1 hn_X0_0 hn_X0_1
 have Sg_ := Aside0.mk (laws_FnExactCircleSum.range ho HB.out.size)
 have B_ := Aside0.mk hb
 clear ho hb
 replace KP0 := Aside0.mk (blk_below KP0.out B_.out)
 replace KW := Aside0.mk (blk_below KW.out B_.out)
 replace KX0 := Aside0.mk (blk_below KX0.out B_.out)
 replace SW := Aside0.mk (Kd.S_below SW.out B_.out)
 replace Sx0 := Aside0.mk (Kd.S_below Sx0.out B_.out)
 replace HB := Aside0.mk (below_step HB.out B_.out)
 have Z10 := Aside0.mk (B_.out).size
 clear B_
 have Sg := Sg_
 clear Sg_
 obtain ⟨Ag, cg, e_⟩ := Kd.S_slice Sg.out
 subst e_
 have hz_P0_0_0 : w8.cell? ⟨w.heap.size, 0, none⟩ = some (.int .i64 z0) := (blk_cell (KP0.out) 0).trans rfl
 have hz_P0_1_1 : w8.cell? ⟨w.heap.size, 1, none⟩ = some (.slice A0 l0.length c0) := (blk_cell (KP0.out) 1).trans rfl
 have hz_W_0_2 : w8.cell? ⟨w4.heap.size, 0, none⟩ = some (.int .i64 g0) := (blk_cell (KW.out) 0).trans rfl
 have hz_W_1_3 : w8.cell? ⟨w4.heap.size, 1, none⟩ = some (.slice AW g1.length cW) := (blk_cell (KW.out) 1).trans rfl
 have hz_X0_0_4 : w8.cell? ⟨w6.heap.size, 0, none⟩ = some (.int .i64 z0) := (blk_cell (KX0.out) 0).trans rfl
 have hz_X0_1_5 : w8.cell? ⟨w6.heap.size, 1, none⟩ = some (.slice Ax0 y0.length cx0) := (blk_cell (KX0.out) 1).trans rfl
 have ha0_P0_0 : (w8.alloc (.cells #[.int .i64 g0, .slice Ag g1.length cg] 49)).cell? ⟨w.heap.size, 0, none⟩ = some (.int .i64 z0) := (blk_cell (blk_alloc (KP0.out) _) 0).trans rfl
 have ha0_P0_1 : (w8.alloc (.cells #[.int .i64 g0, .slice Ag g1.length cg] 49)).cell? ⟨w.heap.size, 1, none⟩ = some (.slice A0 l0.length c0) := (blk_cell (blk_alloc (KP0.out) _) 1).trans rfl
 have ha0_W_0 : (w8.alloc (.cells #[.int .i64 g0, .slice Ag g1.length cg] 49)).cell? ⟨w4.heap.size, 0, none⟩ = some (.int .i64 g0) := (blk_cell (blk_alloc (KW.out) _) 0).trans rfl
 have ha0_W_1 : (w8.alloc (.cells #[.int .i64 g0, .slice Ag g1.length cg] 49)).cell? ⟨w4.heap.size, 1, none⟩ = some (.slice AW g1.length cW) := (blk_cell (blk_alloc (KW.out) _) 1).trans rfl
 have ha0_X0_0 : (w8.alloc (.cells #[.int .i64 g0, .slice Ag g1.length cg] 49)).cell? ⟨w6.heap.size, 0, none⟩ = some (.int .i64 z0) := (blk_cell (blk_alloc (KX0.out) _) 0).trans rfl
 have ha0_X0_1 : (w8.alloc (.cells #[.int .i64 g0, .slice Ag g1.length cg] 49)).cell? ⟨w6.heap.size, 1, none⟩ = some (.slice Ax0 y0.length cx0) := (blk_cell (blk_alloc (KX0.out) _) 1).trans rfl
 have hn_G_0 : (w8.alloc (.cells #[.int .i64 g0, .slice Ag g1.length cg] 49)).cell? ⟨w8.heap.size, 0, none⟩ = some (.int .i64 g0) := (blk_cell (blk_new w8 (.cells #[.int .i64 g0, .slice Ag g1.length cg] 49)) 0).trans rfl
 have hn_G_1 : (w8.alloc (.cells #[.int .i64 g0, .slice Ag g1.length cg] 49)).cell? ⟨w8.heap.size, 1, none⟩ = some (.slice Ag g1.length cg) := (blk_cell (blk_new w8 (.cells #[.int .i64 g0, .slice Ag g1.length cg] 49)) 1).trans rfl
 go_wp2_with fail
 obtain ⟨w9, h_⟩ : ∃ x_ : World, w8.alloc (.cells #[.int .i64 g0, .slice Ag g1.length cg] 49) = x_ := ⟨_, rfl⟩
 rw [h_]
 have B_ : Aside0 (Below w8.heap.size w8 w9) := ⟨by rw [← h_]; exact below_alloc (Below.refl _ _) _⟩
 have KG : Aside0 (w9.heap[w8.heap.size]? = some (.cells #[.int .i64 g0, .slice Ag g1.length cg] 49 (0, 0))) := ⟨by rw [← h_]; exact blk_new _ _⟩
 clear h_
 replace KP0 := Aside0.mk (blk_below KP0.out B_.out)
 replace KW := Aside0.mk (blk_below KW.out B_.out)
 replace KX0 := Aside0.mk (blk_below KX0.out B_.out)
 replace SW := Aside0.mk (Kd.S_below SW.out B_.out)
 replace Sx0 := Aside0.mk (Kd.S_below Sx0.out B_.out)
 replace Sg := Aside0.mk (Kd.S_below Sg.out B_.out)
 replace HB := Aside0.mk (below_step HB.out B_.out)
 have Z11 := Aside0.mk (B_.out).size
 clear B_
 have Z12 := Aside0.mk (blk_lt KG.out)
 refine (laws_eqSum.calls k g0 _ _ g1 g0 _ _ g1 true _ (Kd.S_reads' Sg.out).2.2 (Kd.S_reads' Sg.out).2.1 (Kd.S_reads' SW.out).2.2 (Kd.S_reads' SW.out).2.1 FE.out).mono ?_
 rintro e w10 ⟨rfl, hb⟩
 clear hz_P0_0_0 hz_P0_1_1 hz_W_0_2 hz_W_1_3 hz_X0_0_4 hz_X0_1_5 ha0_P0_0 ha0_P0_1 ha0_W_0 ha0_W_1 ha0_X0_0 ha0_X0_1 hn_G_0 hn_G_1
 have B_ := Aside0.mk hb
 clear hb
 replace KP0 := Aside0.mk (blk_below KP0.out B_.out)
 replace KW := Aside0.mk (blk_below KW.out B_.out)
 replace KX0 := Aside0.mk (blk_below KX0.out B_.out)
 replace KG := Aside0.mk (blk_below KG.out B_.out)
 replace SW := Aside0.mk (Kd.S_below SW.out B_.out)
 replace Sx0 := Aside0.mk (Kd.S_below Sx0.out B_.out)
 replace Sg := Aside0.mk (Kd.S_below Sg.out B_.out)
 replace HB := Aside0.mk (below_step HB.out B_.out)
 have Z13 := Aside0.mk (B_.out).size
 clear B_
 have hz_P0_0_0 : w10.cell? ⟨w.heap.size, 0, none⟩ = some (.int .i64 z0) := (blk_cell (KP0.out) 0).trans rfl
 have hz_P0_1_1 : w10.cell? ⟨w.heap.size, 1, none⟩ = some (.slice A0 l0.length c0) := (blk_cell (KP0.out) 1).trans rfl
 have hz_W_0_2 : w10.cell? ⟨w4.heap.size, 0, none⟩ = some (.int .i64 g0) := (blk_cell (KW.out) 0).trans rfl
 have hz_W_1_3 : w10.cell? ⟨w4.heap.size, 1, none⟩ = some (.slice AW g1.length cW) := (blk_cell (KW.out) 1).trans rfl
 have hz_X0_0_4 : w10.cell? ⟨w6.heap.size, 0, none⟩ = some (.int .i64 z0) := (blk_cell (KX0.out) 0).trans rfl
 have hz_X0_1_5 : w10.cell? ⟨w6.heap.size, 1, none⟩ = some (.slice Ax0 y0.length cx0) := (blk_cell (KX0.out) 1).trans rfl
 have hz_G_0_6 : w10.cell? ⟨w8.heap.size, 0, none⟩ = some (.int .i64 g0) := (blk_cell (KG.out) 0).trans rfl
 have hz_G_1_7 : w10.cell? ⟨w8.heap.size, 1, none⟩ = some (.slice Ag g1.length cg) := (blk_cell (KG.out) 1).trans rfl
 try go_wp2_with fail
 clear hz_P0_0_0 hz_P0_1_1 hz_W_0_2 hz_W_1_3 hz_X0_0_4 hz_X0_1_5 hz_G_0_6 hz_G_1_7
 have B_ : Aside0 (Below w10.heap.size w10 w10.drew) := ⟨below_drew1 (Below.refl _ _)⟩
 replace KP0 := Aside0.mk (blk_below KP0.out B_.out)
 replace KW := Aside0.mk (blk_below KW.out B_.out)
 replace KX0 := Aside0.mk (blk_below KX0.out B_.out)
 replace KG := Aside0.mk (blk_below KG.out B_.out)
 replace SW := Aside0.mk (Kd.S_below SW.out B_.out)
 replace Sx0 := Aside0.mk (Kd.S_below Sx0.out B_.out)
 replace Sg := Aside0.mk (Kd.S_below Sg.out B_.out)
 replace HB := Aside0.mk (below_step HB.out B_.out)
 have Z14 := Aside0.mk (B_.out).size
 clear B_
 refine start_ (n := 5) (S := fun w' => w'.cell? ⟨w6.heap.size, 0, none⟩ = some (.int .i64 z0) ∧ w'.cell? ⟨w6.heap.size, 1, none⟩ = some (.slice Ax0 y0.length cx0) ∧ w'.cell? ⟨w.heap.size, 0, none⟩ = some (.int .i64 z0) ∧ w'.cell? ⟨w.heap.size, 1, none⟩ = some (.slice A0 l0.length c0)) (ds := []) #[false, false, false, false, false] (by kernel_rfl) rfl rfl ⟨(blk_cell KX0.out 0).trans rfl, (blk_cell KX0.out 1).trans rfl, (blk_cell KP0.out 0).trans rfl, (blk_cell KP0.out 1).trans rfl⟩ (fun hHeld => ?_)
 generalize w10.drew = w11 at KP0 KW KX0 KG SW Sx0 Sg HB Z14 hHeld ⊢
 refine take_ (i := 0) (N := some 41) (v := ?_) (a' := ?_) (bv 5 1) rfl rfl (by kernel_rfl) (fun _ _ _ h => h) (Or.inl ⟨by rfl, ?_⟩) hHeld ?_ ?_
 rotate_left
 ·rintro w' ⟨s0, s1, s2, s3⟩
  go_simp
  with_reducible rfl
 rotate_left
 ·simp only [Act.put, sA, sZ, sS, i64_w, i32_w]
  rfl
 refine take_ (i := 1) (N := some 42) (v := ?_) (a' := ?_) (bv 5 3) rfl rfl (by kernel_rfl) (fun _ _ _ h => h) (Or.inl ⟨by rfl, ?_⟩) hHeld ?_ ?_
 rotate_left
 ·rintro w' ⟨s0, s1, s2, s3⟩
  go_simp
  with_reducible rfl
 rotate_left
 ·simp only [Act.put, sA, sZ, sS, i64_w, i32_w]
  rfl
 refine one_ (i := 2) (N := some 43) (bv 5 7) rfl rfl (by kernel_rfl) (by decide) (fun K hK => ?_)
 refine goes_ Try.func35 (by kernel_rfl) rfl #[.agg #[.int .i64 z0, .slice A0 l0.length c0]] (by rfl) rfl rfl (by simp only [List.map_toArray, List.map_cons, List.map_nil]; rfl) ?_
 refine (laws_toSum.calls k z0 _ _ l0 z0 y0 _ (Kd.C_below HA0.out HB.out) HC0.out FT0.out).mono ?_
 rintro e w12 ⟨v_, rfl, ho, hb⟩
 refine ⟨_, rfl, ?_⟩
 have Sq0_ := Aside0.mk (laws_FnExactCircleSum.range ho HB.out.size)
 have B_ := Aside0.mk hb
 clear ho hb
 replace KP0 := Aside0.mk (blk_below KP0.out B_.out)
 replace KW := Aside0.mk (blk_below KW.out B_.out)
 replace KX0 := Aside0.mk (blk_below KX0.out B_.out)
 replace KG := Aside0.mk (blk_below KG.out B_.out)
 replace SW := Aside0.mk (Kd.S_below SW.out B_.out)
 replace Sx0 := Aside0.mk (Kd.S_below Sx0.out B_.out)
 replace Sg := Aside0.mk (Kd.S_below Sg.out B_.out)
 replace HB := Aside0.mk (below_step HB.out B_.out)
 have Z15 := Aside0.mk (B_.out).size
 clear B_
 have Sq0 := Sq0_
 clear Sq0_
 obtain ⟨Aq0, cq0, e_⟩ := Kd.S_slice Sq0.out
 subst e_
 refine hK.out _ _ ⟨(blk_cell KX0.out 0).trans rfl, (blk_cell KX0.out 1).trans rfl, (blk_cell KP0.out 0).trans rfl, (blk_cell KP0.out 1).trans rfl⟩ (fun hHeld => ?_)
 clear hK K
 refine norm_ (a' := ?_) ?_ ?_
 rotate_left
 ·show Act.put _ (some 43) _ = _
  simp only [Act.put, sA, sZ, sS, i64_w, i32_w]
  rfl
 refine one_ (i := 3) (N := some 44) (bv 5 15) rfl rfl (by kernel_rfl) (by decide) (fun K hK => ?_)
 refine goes_ Try.func37 (by kernel_rfl) rfl #[.agg #[.int .i64 z0, .slice Ax0 y0.length cx0], .agg #[.int .i64 z0, .slice Aq0 y0.length cq0]] (by rfl) rfl rfl (by simp only [List.map_toArray, List.map_cons, List.map_nil]; rfl) ?_
 refine (laws_eqSum.calls k z0 _ _ y0 z0 _ _ y0 true _ (Kd.S_reads' Sx0.out).2.2 (Kd.S_reads' Sx0.out).2.1 (Kd.S_reads' Sq0.out).2.2 (Kd.S_reads' Sq0.out).2.1 FQ0.out).mono ?_
 rintro e w13 ⟨rfl, hb⟩
 refine ⟨_, rfl, ?_⟩
 have B_ := Aside0.mk hb
 clear hb
 replace KP0 := Aside0.mk (blk_below KP0.out B_.out)
 replace KW := Aside0.mk (blk_below KW.out B_.out)
 replace KX0 := Aside0.mk (blk_below KX0.out B_.out)
 replace KG := Aside0.mk (blk_below KG.out B_.out)
 replace SW := Aside0.mk (Kd.S_below SW.out B_.out)
 replace Sx0 := Aside0.mk (Kd.S_below Sx0.out B_.out)
 replace Sg := Aside0.mk (Kd.S_below Sg.out B_.out)
 replace Sq0 := Aside0.mk (Kd.S_below Sq0.out B_.out)
 replace HB := Aside0.mk (below_step HB.out B_.out)
 have Z16 := Aside0.mk (B_.out).size
 clear B_
 clear Sq0
 refine hK.out _ _ ⟨(blk_cell KX0.out 0).trans rfl, (blk_cell KX0.out 1).trans rfl, (blk_cell KP0.out 0).trans rfl, (blk_cell KP0.out 1).trans rfl⟩ (fun hHeld => ?_)
 clear hK K
 refine norm_ (a' := ?_) ?_ ?_
 rotate_left
 ·show Act.put _ (some 44) _ = _
  simp only [Act.put, sA, sZ, sS, i64_w, i32_w]
  rfl
 refine pure_ (i := 4) (N := some 45) (v := ?_) (a' := ?_) (bv 5 31) rfl rfl (by kernel_rfl) (fun _ _ _ h => h) (Or.inl ⟨by rfl, ?_⟩) ?_ ?_
 rotate_left
 ·intro w'
  go_simp
  with_reducible rfl
 rotate_left
 ·simp only [Act.put, sA, sZ, sS, i64_w, i32_w]
  rfl
 refine done_ (by kernel_rfl) ?_
 have hz_P0_0_0 : w13.cell? ⟨w.heap.size, 0, none⟩ = some (.int .i64 z0) := (blk_cell (KP0.out) 0).trans rfl
 have hz_P0_1_1 : w13.cell? ⟨w.heap.size, 1, none⟩ = some (.slice A0 l0.length c0) := (blk_cell (KP0.out) 1).trans rfl
 have hz_W_0_2 : w13.cell? ⟨w4.heap.size, 0, none⟩ = some (.int .i64 g0) := (blk_cell (KW.out) 0).trans rfl
 have hz_W_1_3 : w13.cell? ⟨w4.heap.size, 1, none⟩ = some (.slice AW g1.length cW) := (blk_cell (KW.out) 1).trans rfl
 have hz_X0_0_4 : w13.cell? ⟨w6.heap.size, 0, none⟩ = some (.int .i64 z0) := (blk_cell (KX0.out) 0).trans rfl
 have hz_X0_1_5 : w13.cell? ⟨w6.heap.size, 1, none⟩ = some (.slice Ax0 y0.length cx0) := (blk_cell (KX0.out) 1).trans rfl
 have hz_G_0_6 : w13.cell? ⟨w8.heap.size, 0, none⟩ = some (.int .i64 g0) := (blk_cell (KG.out) 0).trans rfl
 have hz_G_1_7 : w13.cell? ⟨w8.heap.size, 1, none⟩ = some (.slice Ag g1.length cg) := (blk_cell (KG.out) 1).trans rfl
 go_wp2_with fail
 refine (laws_markSum.calls k (fun k_ => w5.heap.size ≤ k_ ∧ k_ < w6.heap.size) z0 _ y0 1 m10 q0 w _ HB.out Sx0.out FK0.out).mono ?_
 rintro e w14 ⟨rfl, ho, hb, hk⟩
 clear hz_P0_0_0 hz_P0_1_1 hz_W_0_2 hz_W_1_3 hz_X0_0_4 hz_X0_1_5 hz_G_0_6 hz_G_1_7
 have HBn := Aside0.mk hb
 have HK := Aside0.mk hk
 have SM := Aside0.mk ho
 clear ho hb hk
 replace KP0 := Aside0.mk (blk_kept KP0.out HK.out (fun hs_ => by obtain ⟨x1_, x2_⟩ := hs_; have := Z0.out; have := Z1.out; have := Z2.out; have := Z3.out; have := Z4.out; have := Z5.out; have := Z6.out; have := Z7.out; have := Z8.out; have := Z9.out; have := Z10.out; have := Z11.out; have := Z12.out; have := Z13.out; have := Z14.out; have := Z15.out; have := Z16.out; omega))
 replace KW := Aside0.mk (blk_kept KW.out HK.out (fun hs_ => by obtain ⟨x1_, x2_⟩ := hs_; have := Z0.out; have := Z1.out; have := Z2.out; have := Z3.out; have := Z4.out; have := Z5.out; have := Z6.out; have := Z7.out; have := Z8.out; have := Z9.out; have := Z10.out; have := Z11.out; have := Z12.out; have := Z13.out; have := Z14.out; have := Z15.out; have := Z16.out; omega))
 replace KX0 := Aside0.mk (blk_kept KX0.out HK.out (fun hs_ => by obtain ⟨x1_, x2_⟩ := hs_; have := Z0.out; have := Z1.out; have := Z2.out; have := Z3.out; have := Z4.out; have := Z5.out; have := Z6.out; have := Z7.out; have := Z8.out; have := Z9.out; have := Z10.out; have := Z11.out; have := Z12.out; have := Z13.out; have := Z14.out; have := Z15.out; have := Z16.out; omega))
 replace KG := Aside0.mk (blk_kept KG.out HK.out (fun hs_ => by obtain ⟨x1_, x2_⟩ := hs_; have := Z0.out; have := Z1.out; have := Z2.out; have := Z3.out; have := Z4.out; have := Z5.out; have := Z6.out; have := Z7.out; have := Z8.out; have := Z9.out; have := Z10.out; have := Z11.out; have := Z12.out; have := Z13.out; have := Z14.out; have := Z15.out; have := Z16.out; omega))
 replace SW := Aside0.mk (Kd.S_kept SW.out HK.out (fun k_ h1_ h2_ => by obtain ⟨x1_, x2_⟩ := h1_; obtain ⟨x3_, x4_⟩ := h2_; have := Z0.out; have := Z1.out; have := Z2.out; have := Z3.out; have := Z4.out; have := Z5.out; have := Z6.out; have := Z7.out; have := Z8.out; have := Z9.out; have := Z10.out; have := Z11.out; have := Z12.out; have := Z13.out; have := Z14.out; have := Z15.out; have := Z16.out; omega))
 replace Sg := Aside0.mk (Kd.S_kept Sg.out HK.out (fun k_ h1_ h2_ => by obtain ⟨x1_, x2_⟩ := h1_; obtain ⟨x3_, x4_⟩ := h2_; have := Z0.out; have := Z1.out; have := Z2.out; have := Z3.out; have := Z4.out; have := Z5.out; have := Z6.out; have := Z7.out; have := Z8.out; have := Z9.out; have := Z10.out; have := Z11.out; have := Z12.out; have := Z13.out; have := Z14.out; have := Z15.out; have := Z16.out; omega))
 clear HB
 have HB := HBn
 clear HBn
 have Z17 := Aside0.mk HK.out.1
 clear HK Sx0
 clear SM
 have hz_P0_0_0 : w14.cell? ⟨w.heap.size, 0, none⟩ = some (.int .i64 z0) := (blk_cell (KP0.out) 0).trans rfl
 have hz_P0_1_1 : w14.cell? ⟨w.heap.size, 1, none⟩ = some (.slice A0 l0.length c0) := (blk_cell (KP0.out) 1).trans rfl
 have hz_W_0_2 : w14.cell? ⟨w4.heap.size, 0, none⟩ = some (.int .i64 g0) := (blk_cell (KW.out) 0).trans rfl
 have hz_W_1_3 : w14.cell? ⟨w4.heap.size, 1, none⟩ = some (.slice AW g1.length cW) := (blk_cell (KW.out) 1).trans rfl
 have hz_X0_0_4 : w14.cell? ⟨w6.heap.size, 0, none⟩ = some (.int .i64 z0) := (blk_cell (KX0.out) 0).trans rfl
 have hz_X0_1_5 : w14.cell? ⟨w6.heap.size, 1, none⟩ = some (.slice Ax0 y0.length cx0) := (blk_cell (KX0.out) 1).trans rfl
 have hz_G_0_6 : w14.cell? ⟨w8.heap.size, 0, none⟩ = some (.int .i64 g0) := (blk_cell (KG.out) 0).trans rfl
 have hz_G_1_7 : w14.cell? ⟨w8.heap.size, 1, none⟩ = some (.slice Ag g1.length cg) := (blk_cell (KG.out) 1).trans rfl
 go_wp2_with fail
 refine (laws_eqSum.calls k g0 _ _ g1 g0 _ _ g1 true _ (Kd.S_reads' Sg.out).2.2 (Kd.S_reads' Sg.out).2.1 (Kd.S_reads' SW.out).2.2 (Kd.S_reads' SW.out).2.1 FE.out).mono ?_
 rintro e w15 ⟨rfl, hb⟩
 clear hz_P0_0_0 hz_P0_1_1 hz_W_0_2 hz_W_1_3 hz_X0_0_4 hz_X0_1_5 hz_G_0_6 hz_G_1_7
 have B_ := Aside0.mk hb
 clear hb
 replace KP0 := Aside0.mk (blk_below KP0.out B_.out)
 replace KW := Aside0.mk (blk_below KW.out B_.out)
 replace KX0 := Aside0.mk (blk_below KX0.out B_.out)
 replace KG := Aside0.mk (blk_below KG.out B_.out)
 replace SW := Aside0.mk (Kd.S_below SW.out B_.out)
 replace Sg := Aside0.mk (Kd.S_below Sg.out B_.out)
 replace HB := Aside0.mk (below_step HB.out B_.out)
 have Z18 := Aside0.mk (B_.out).size
 clear B_
 have hz_P0_0_0 : w15.cell? ⟨w.heap.size, 0, none⟩ = some (.int .i64 z0) := (blk_cell (KP0.out) 0).trans rfl
 have hz_P0_1_1 : w15.cell? ⟨w.heap.size, 1, none⟩ = some (.slice A0 l0.length c0) := (blk_cell (KP0.out) 1).trans rfl
 have hz_W_0_2 : w15.cell? ⟨w4.heap.size, 0, none⟩ = some (.int .i64 g0) := (blk_cell (KW.out) 0).trans rfl
 have hz_W_1_3 : w15.cell? ⟨w4.heap.size, 1, none⟩ = some (.slice AW g1.length cW) := (blk_cell (KW.out) 1).trans rfl
 have hz_X0_0_4 : w15.cell? ⟨w6.heap.size, 0, none⟩ = some (.int .i64 z0) := (blk_cell (KX0.out) 0).trans rfl
 have hz_X0_1_5 : w15.cell? ⟨w6.heap.size, 1, none⟩ = some (.slice Ax0 y0.length cx0) := (blk_cell (KX0.out) 1).trans rfl
 have hz_G_0_6 : w15.cell? ⟨w8.heap.size, 0, none⟩ = some (.int .i64 g0) := (blk_cell (KG.out) 0).trans rfl
 have hz_G_1_7 : w15.cell? ⟨w8.heap.size, 1, none⟩ = some (.slice Ag g1.length cg) := (blk_cell (KG.out) 1).trans rfl
 go_wp2_with fail
 refine (laws_markSum.calls k (fun k_ => w7.heap.size ≤ k_ ∧ k_ < w8.heap.size) g0 _ g1 1 m p1 w _ HB.out Sg.out FM.out).mono ?_
 rintro e w16 ⟨rfl, ho, hb, hk⟩
 clear hz_P0_0_0 hz_P0_1_1 hz_W_0_2 hz_W_1_3 hz_X0_0_4 hz_X0_1_5 hz_G_0_6 hz_G_1_7
 have HBn := Aside0.mk hb
 have HK := Aside0.mk hk
 have SM := Aside0.mk ho
 clear ho hb hk
 replace KP0 := Aside0.mk (blk_kept KP0.out HK.out (fun hs_ => by obtain ⟨x1_, x2_⟩ := hs_; have := Z0.out; have := Z1.out; have := Z2.out; have := Z3.out; have := Z4.out; have := Z5.out; have := Z6.out; have := Z7.out; have := Z8.out; have := Z9.out; have := Z10.out; have := Z11.out; have := Z12.out; have := Z13.out; have := Z14.out; have := Z15.out; have := Z16.out; have := Z17.out; have := Z18.out; omega))
 replace KW := Aside0.mk (blk_kept KW.out HK.out (fun hs_ => by obtain ⟨x1_, x2_⟩ := hs_; have := Z0.out; have := Z1.out; have := Z2.out; have := Z3.out; have := Z4.out; have := Z5.out; have := Z6.out; have := Z7.out; have := Z8.out; have := Z9.out; have := Z10.out; have := Z11.out; have := Z12.out; have := Z13.out; have := Z14.out; have := Z15.out; have := Z16.out; have := Z17.out; have := Z18.out; omega))
 replace KX0 := Aside0.mk (blk_kept KX0.out HK.out (fun hs_ => by obtain ⟨x1_, x2_⟩ := hs_; have := Z0.out; have := Z1.out; have := Z2.out; have := Z3.out; have := Z4.out; have := Z5.out; have := Z6.out; have := Z7.out; have := Z8.out; have := Z9.out; have := Z10.out; have := Z11.out; have := Z12.out; have := Z13.out; have := Z14.out; have := Z15.out; have := Z16.out; have := Z17.out; have := Z18.out; omega))
 replace KG := Aside0.mk (blk_kept KG.out HK.out (fun hs_ => by obtain ⟨x1_, x2_⟩ := hs_; have := Z0.out; have := Z1.out; have := Z2.out; have := Z3.out; have := Z4.out; have := Z5.out; have := Z6.out; have := Z7.out; have := Z8.out; have := Z9.out; have := Z10.out; have := Z11.out; have := Z12.out; have := Z13.out; have := Z14.out; have := Z15.out; have := Z16.out; have := Z17.out; have := Z18.out; omega))
 replace SW := Aside0.mk (Kd.S_kept SW.out HK.out (fun k_ h1_ h2_ => by obtain ⟨x1_, x2_⟩ := h1_; obtain ⟨x3_, x4_⟩ := h2_; have := Z0.out; have := Z1.out; have := Z2.out; have := Z3.out; have := Z4.out; have := Z5.out; have := Z6.out; have := Z7.out; have := Z8.out; have := Z9.out; have := Z10.out; have := Z11.out; have := Z12.out; have := Z13.out; have := Z14.out; have := Z15.out; have := Z16.out; have := Z17.out; have := Z18.out; omega))
 clear HB
 have HB := HBn
 clear HBn
 have Z19 := Aside0.mk HK.out.1
 clear HK Sg
 have SM1 := SM
 clear SM
 have hz_P0_0_0 : w16.cell? ⟨w.heap.size, 0, none⟩ = some (.int .i64 z0) := (blk_cell (KP0.out) 0).trans rfl
 have hz_P0_1_1 : w16.cell? ⟨w.heap.size, 1, none⟩ = some (.slice A0 l0.length c0) := (blk_cell (KP0.out) 1).trans rfl
 have hz_W_0_2 : w16.cell? ⟨w4.heap.size, 0, none⟩ = some (.int .i64 g0) := (blk_cell (KW.out) 0).trans rfl
 have hz_W_1_3 : w16.cell? ⟨w4.heap.size, 1, none⟩ = some (.slice AW g1.length cW) := (blk_cell (KW.out) 1).trans rfl
 have hz_X0_0_4 : w16.cell? ⟨w6.heap.size, 0, none⟩ = some (.int .i64 z0) := (blk_cell (KX0.out) 0).trans rfl
 have hz_X0_1_5 : w16.cell? ⟨w6.heap.size, 1, none⟩ = some (.slice Ax0 y0.length cx0) := (blk_cell (KX0.out) 1).trans rfl
 have hz_G_0_6 : w16.cell? ⟨w8.heap.size, 0, none⟩ = some (.int .i64 g0) := (blk_cell (KG.out) 0).trans rfl
 have hz_G_1_7 : w16.cell? ⟨w8.heap.size, 1, none⟩ = some (.slice Ag g1.length cg) := (blk_cell (KG.out) 1).trans rfl
 go_wp2_with fail
 have e_ := (Kd.S_reads' SM1.out).1
 have hh_ := laws_heldSum.calls k g0 _ _ p1 1 m _ (Kd.S_reads' SM1.out).2.2 (by rw [← e_]; exact (Kd.S_reads' SM1.out).2.1) FH.out
 rw [← e_] at hh_
 clear e_
 refine hh_.mono ?_
 clear hh_
 rintro e w17 ⟨rfl, hb⟩
 clear hz_P0_0_0 hz_P0_1_1 hz_W_0_2 hz_W_1_3 hz_X0_0_4 hz_X0_1_5 hz_G_0_6 hz_G_1_7
 have B_ := Aside0.mk hb
 clear hb
 replace KP0 := Aside0.mk (blk_below KP0.out B_.out)
 replace KW := Aside0.mk (blk_below KW.out B_.out)
 replace KX0 := Aside0.mk (blk_below KX0.out B_.out)
 replace KG := Aside0.mk (blk_below KG.out B_.out)
 replace SW := Aside0.mk (Kd.S_below SW.out B_.out)
 replace SM1 := Aside0.mk (Kd.S_below SM1.out B_.out)
 replace HB := Aside0.mk (below_step HB.out B_.out)
 have Z20 := Aside0.mk (B_.out).size
 clear B_
 have hz_P0_0_0 : w17.cell? ⟨w.heap.size, 0, none⟩ = some (.int .i64 z0) := (blk_cell (KP0.out) 0).trans rfl
 have hz_P0_1_1 : w17.cell? ⟨w.heap.size, 1, none⟩ = some (.slice A0 l0.length c0) := (blk_cell (KP0.out) 1).trans rfl
 have hz_W_0_2 : w17.cell? ⟨w4.heap.size, 0, none⟩ = some (.int .i64 g0) := (blk_cell (KW.out) 0).trans rfl
 have hz_W_1_3 : w17.cell? ⟨w4.heap.size, 1, none⟩ = some (.slice AW g1.length cW) := (blk_cell (KW.out) 1).trans rfl
 have hz_X0_0_4 : w17.cell? ⟨w6.heap.size, 0, none⟩ = some (.int .i64 z0) := (blk_cell (KX0.out) 0).trans rfl
 have hz_X0_1_5 : w17.cell? ⟨w6.heap.size, 1, none⟩ = some (.slice Ax0 y0.length cx0) := (blk_cell (KX0.out) 1).trans rfl
 have hz_G_0_6 : w17.cell? ⟨w8.heap.size, 0, none⟩ = some (.int .i64 g0) := (blk_cell (KG.out) 0).trans rfl
 have hz_G_1_7 : w17.cell? ⟨w8.heap.size, 1, none⟩ = some (.slice Ag g1.length cg) := (blk_cell (KG.out) 1).trans rfl
 go_wp2_with fail
 refine (laws_toSum.calls k z0 _ _ l0 z0 y0 _ (Kd.C_below HA0.out HB.out) HC0.out FT0.out).mono ?_
 rintro e w18 ⟨v_, rfl, ho, hb⟩
 clear hz_P0_0_0 hz_P0_1_1 hz_W_0_2 hz_W_1_3 hz_X0_0_4 hz_X0_1_5 hz_G_0_6 hz_G_1_7
 have Sh0_ := Aside0.mk (laws_FnExactCircleSum.range ho HB.out.size)
 have B_ := Aside0.mk hb
 clear ho hb
 replace KP0 := Aside0.mk (blk_below KP0.out B_.out)
 replace KW := Aside0.mk (blk_below KW.out B_.out)
 replace KX0 := Aside0.mk (blk_below KX0.out B_.out)
 replace KG := Aside0.mk (blk_below KG.out B_.out)
 replace SW := Aside0.mk (Kd.S_below SW.out B_.out)
 replace SM1 := Aside0.mk (Kd.S_below SM1.out B_.out)
 replace HB := Aside0.mk (below_step HB.out B_.out)
 have Z21 := Aside0.mk (B_.out).size
 clear B_
 have Sh0 := Sh0_
 clear Sh0_
 obtain ⟨Ah0, ch0, e_⟩ := Kd.S_slice Sh0.out
 subst e_
 have hz_P0_0_0 : w18.cell? ⟨w.heap.size, 0, none⟩ = some (.int .i64 z0) := (blk_cell (KP0.out) 0).trans rfl
 have hz_P0_1_1 : w18.cell? ⟨w.heap.size, 1, none⟩ = some (.slice A0 l0.length c0) := (blk_cell (KP0.out) 1).trans rfl
 have hz_W_0_2 : w18.cell? ⟨w4.heap.size, 0, none⟩ = some (.int .i64 g0) := (blk_cell (KW.out) 0).trans rfl
 have hz_W_1_3 : w18.cell? ⟨w4.heap.size, 1, none⟩ = some (.slice AW g1.length cW) := (blk_cell (KW.out) 1).trans rfl
 have hz_X0_0_4 : w18.cell? ⟨w6.heap.size, 0, none⟩ = some (.int .i64 z0) := (blk_cell (KX0.out) 0).trans rfl
 have hz_X0_1_5 : w18.cell? ⟨w6.heap.size, 1, none⟩ = some (.slice Ax0 y0.length cx0) := (blk_cell (KX0.out) 1).trans rfl
 have hz_G_0_6 : w18.cell? ⟨w8.heap.size, 0, none⟩ = some (.int .i64 g0) := (blk_cell (KG.out) 0).trans rfl
 have hz_G_1_7 : w18.cell? ⟨w8.heap.size, 1, none⟩ = some (.slice Ag g1.length cg) := (blk_cell (KG.out) 1).trans rfl
 go_wp2_with fail
 refine (impl_CircleSum.calls k z0 _ _ y0 g0 g1 c _ (Kd.S_reads' Sh0.out).2.2 (Kd.S_reads' Sh0.out).2.1 FI.out).mono ?_
 rintro e w19 ⟨v_, rfl, ho, hb⟩
 clear hz_P0_0_0 hz_P0_1_1 hz_W_0_2 hz_W_1_3 hz_X0_0_4 hz_X0_1_5 hz_G_0_6 hz_G_1_7
 have Sy_ := Aside0.mk (laws_FnExactCircleSum.range ho HB.out.size)
 have B_ := Aside0.mk hb
 clear ho hb
 replace KP0 := Aside0.mk (blk_below KP0.out B_.out)
 replace KW := Aside0.mk (blk_below KW.out B_.out)
 replace KX0 := Aside0.mk (blk_below KX0.out B_.out)
 replace KG := Aside0.mk (blk_below KG.out B_.out)
 replace SW := Aside0.mk (Kd.S_below SW.out B_.out)
 replace SM1 := Aside0.mk (Kd.S_below SM1.out B_.out)
 replace Sh0 := Aside0.mk (Kd.S_below Sh0.out B_.out)
 replace HB := Aside0.mk (below_step HB.out B_.out)
 have Z22 := Aside0.mk (B_.out).size
 clear B_
 have Sy := Sy_
 clear Sy_
 obtain ⟨Ay, cy, e_⟩ := Kd.S_slice Sy.out
 subst e_
 clear Sh0
 have hz_P0_0_0 : w19.cell? ⟨w.heap.size, 0, none⟩ = some (.int .i64 z0) := (blk_cell (KP0.out) 0).trans rfl
 have hz_P0_1_1 : w19.cell? ⟨w.heap.size, 1, none⟩ = some (.slice A0 l0.length c0) := (blk_cell (KP0.out) 1).trans rfl
 have hz_W_0_2 : w19.cell? ⟨w4.heap.size, 0, none⟩ = some (.int .i64 g0) := (blk_cell (KW.out) 0).trans rfl
 have hz_W_1_3 : w19.cell? ⟨w4.heap.size, 1, none⟩ = some (.slice AW g1.length cW) := (blk_cell (KW.out) 1).trans rfl
 have hz_X0_0_4 : w19.cell? ⟨w6.heap.size, 0, none⟩ = some (.int .i64 z0) := (blk_cell (KX0.out) 0).trans rfl
 have hz_X0_1_5 : w19.cell? ⟨w6.heap.size, 1, none⟩ = some (.slice Ax0 y0.length cx0) := (blk_cell (KX0.out) 1).trans rfl
 have hz_G_0_6 : w19.cell? ⟨w8.heap.size, 0, none⟩ = some (.int .i64 g0) := (blk_cell (KG.out) 0).trans rfl
 have hz_G_1_7 : w19.cell? ⟨w8.heap.size, 1, none⟩ = some (.slice Ag g1.length cg) := (blk_cell (KG.out) 1).trans rfl
 have ha0_P0_0 : (w19.alloc (.cells #[.int .i64 g0, .slice Ay g1.length cy] 49)).cell? ⟨w.heap.size, 0, none⟩ = some (.int .i64 z0) := (blk_cell (blk_alloc (KP0.out) _) 0).trans rfl
 have ha0_P0_1 : (w19.alloc (.cells #[.int .i64 g0, .slice Ay g1.length cy] 49)).cell? ⟨w.heap.size, 1, none⟩ = some (.slice A0 l0.length c0) := (blk_cell (blk_alloc (KP0.out) _) 1).trans rfl
 have ha0_W_0 : (w19.alloc (.cells #[.int .i64 g0, .slice Ay g1.length cy] 49)).cell? ⟨w4.heap.size, 0, none⟩ = some (.int .i64 g0) := (blk_cell (blk_alloc (KW.out) _) 0).trans rfl
 have ha0_W_1 : (w19.alloc (.cells #[.int .i64 g0, .slice Ay g1.length cy] 49)).cell? ⟨w4.heap.size, 1, none⟩ = some (.slice AW g1.length cW) := (blk_cell (blk_alloc (KW.out) _) 1).trans rfl
 have ha0_X0_0 : (w19.alloc (.cells #[.int .i64 g0, .slice Ay g1.length cy] 49)).cell? ⟨w6.heap.size, 0, none⟩ = some (.int .i64 z0) := (blk_cell (blk_alloc (KX0.out) _) 0).trans rfl
 have ha0_X0_1 : (w19.alloc (.cells #[.int .i64 g0, .slice Ay g1.length cy] 49)).cell? ⟨w6.heap.size, 1, none⟩ = some (.slice Ax0 y0.length cx0) := (blk_cell (blk_alloc (KX0.out) _) 1).trans rfl
 have ha0_G_0 : (w19.alloc (.cells #[.int .i64 g0, .slice Ay g1.length cy] 49)).cell? ⟨w8.heap.size, 0, none⟩ = some (.int .i64 g0) := (blk_cell (blk_alloc (KG.out) _) 0).trans rfl
 have ha0_G_1 : (w19.alloc (.cells #[.int .i64 g0, .slice Ay g1.length cy] 49)).cell? ⟨w8.heap.size, 1, none⟩ = some (.slice Ag g1.length cg) := (blk_cell (blk_alloc (KG.out) _) 1).trans rfl
 have hn_Y_0 : (w19.alloc (.cells #[.int .i64 g0, .slice Ay g1.length cy] 49)).cell? ⟨w19.heap.size, 0, none⟩ = some (.int .i64 g0) := (blk_cell (blk_new w19 (.cells #[.int .i64 g0, .slice Ay g1.length cy] 49)) 0).trans rfl
 have hn_Y_1 : (w19.alloc (.cells #[.int .i64 g0, .slice Ay g1.length cy] 49)).cell? ⟨w19.heap.size, 1, none⟩ = some (.slice Ay g1.length cy) := (blk_cell (blk_new w19 (.cells #[.int .i64 g0, .slice Ay g1.length cy] 49)) 1).trans rfl
 go_wp2_with fail
 obtain ⟨w20, h_⟩ : ∃ x_ : World, w19.alloc (.cells #[.int .i64 g0, .slice Ay g1.length cy] 49) = x_ := ⟨_, rfl⟩
 rw [h_]
 have B_ : Aside0 (Below w19.heap.size w19 w20) := ⟨by rw [← h_]; exact below_alloc (Below.refl _ _) _⟩
 have KY : Aside0 (w20.heap[w19.heap.size]? = some (.cells #[.int .i64 g0, .slice Ay g1.length cy] 49 (0, 0))) := ⟨by rw [← h_]; exact blk_new _ _⟩
 clear h_
 replace KP0 := Aside0.mk (blk_below KP0.out B_.out)
 replace KW := Aside0.mk (blk_below KW.out B_.out)
 replace KX0 := Aside0.mk (blk_below KX0.out B_.out)
 replace KG := Aside0.mk (blk_below KG.out B_.out)
 replace SW := Aside0.mk (Kd.S_below SW.out B_.out)
 replace SM1 := Aside0.mk (Kd.S_below SM1.out B_.out)
 replace Sy := Aside0.mk (Kd.S_below Sy.out B_.out)
 replace HB := Aside0.mk (below_step HB.out B_.out)
 have Z23 := Aside0.mk (B_.out).size
 clear B_
 have Z24 := Aside0.mk (blk_lt KY.out)
 refine (laws_eqSum.calls k g0 _ _ g1 g0 _ _ g1 true _ (Kd.S_reads' Sy.out).2.2 (Kd.S_reads' Sy.out).2.1 (Kd.S_reads' SW.out).2.2 (Kd.S_reads' SW.out).2.1 FE.out).mono ?_
 rintro e w21 ⟨rfl, hb⟩
 clear hz_P0_0_0 hz_P0_1_1 hz_W_0_2 hz_W_1_3 hz_X0_0_4 hz_X0_1_5 hz_G_0_6 hz_G_1_7 ha0_P0_0 ha0_P0_1 ha0_W_0 ha0_W_1 ha0_X0_0 ha0_X0_1 ha0_G_0 ha0_G_1 hn_Y_0 hn_Y_1
 have B_ := Aside0.mk hb
 clear hb
 replace KP0 := Aside0.mk (blk_below KP0.out B_.out)
 replace KW := Aside0.mk (blk_below KW.out B_.out)
 replace KX0 := Aside0.mk (blk_below KX0.out B_.out)
 replace KG := Aside0.mk (blk_below KG.out B_.out)
 replace KY := Aside0.mk (blk_below KY.out B_.out)
 replace SW := Aside0.mk (Kd.S_below SW.out B_.out)
 replace SM1 := Aside0.mk (Kd.S_below SM1.out B_.out)
 replace Sy := Aside0.mk (Kd.S_below Sy.out B_.out)
 replace HB := Aside0.mk (below_step HB.out B_.out)
 have Z25 := Aside0.mk (B_.out).size
 clear B_
 have hz_P0_0_0 : w21.cell? ⟨w.heap.size, 0, none⟩ = some (.int .i64 z0) := (blk_cell (KP0.out) 0).trans rfl
 have hz_P0_1_1 : w21.cell? ⟨w.heap.size, 1, none⟩ = some (.slice A0 l0.length c0) := (blk_cell (KP0.out) 1).trans rfl
 have hz_W_0_2 : w21.cell? ⟨w4.heap.size, 0, none⟩ = some (.int .i64 g0) := (blk_cell (KW.out) 0).trans rfl
 have hz_W_1_3 : w21.cell? ⟨w4.heap.size, 1, none⟩ = some (.slice AW g1.length cW) := (blk_cell (KW.out) 1).trans rfl
 have hz_X0_0_4 : w21.cell? ⟨w6.heap.size, 0, none⟩ = some (.int .i64 z0) := (blk_cell (KX0.out) 0).trans rfl
 have hz_X0_1_5 : w21.cell? ⟨w6.heap.size, 1, none⟩ = some (.slice Ax0 y0.length cx0) := (blk_cell (KX0.out) 1).trans rfl
 have hz_G_0_6 : w21.cell? ⟨w8.heap.size, 0, none⟩ = some (.int .i64 g0) := (blk_cell (KG.out) 0).trans rfl
 have hz_G_1_7 : w21.cell? ⟨w8.heap.size, 1, none⟩ = some (.slice Ag g1.length cg) := (blk_cell (KG.out) 1).trans rfl
 have hz_Y_0_8 : w21.cell? ⟨w19.heap.size, 0, none⟩ = some (.int .i64 g0) := (blk_cell (KY.out) 0).trans rfl
 have hz_Y_1_9 : w21.cell? ⟨w19.heap.size, 1, none⟩ = some (.slice Ay g1.length cy) := (blk_cell (KY.out) 1).trans rfl
 go_wp2_with fail
 have e_ := (Kd.S_reads' SM1.out).1
 have hh_ := laws_heldSum.calls k g0 _ _ p1 1 m _ (Kd.S_reads' SM1.out).2.2 (by rw [← e_]; exact (Kd.S_reads' SM1.out).2.1) FH.out
 rw [← e_] at hh_
 clear e_
 refine hh_.mono ?_
 clear hh_
 rintro e w22 ⟨rfl, hb⟩
 clear hz_P0_0_0 hz_P0_1_1 hz_W_0_2 hz_W_1_3 hz_X0_0_4 hz_X0_1_5 hz_G_0_6 hz_G_1_7 hz_Y_0_8 hz_Y_1_9
 have B_ := Aside0.mk hb
 clear hb
 replace KP0 := Aside0.mk (blk_below KP0.out B_.out)
 replace KW := Aside0.mk (blk_below KW.out B_.out)
 replace KX0 := Aside0.mk (blk_below KX0.out B_.out)
 replace KG := Aside0.mk (blk_below KG.out B_.out)
 replace KY := Aside0.mk (blk_below KY.out B_.out)
 replace SW := Aside0.mk (Kd.S_below SW.out B_.out)
 replace SM1 := Aside0.mk (Kd.S_below SM1.out B_.out)
 replace Sy := Aside0.mk (Kd.S_below Sy.out B_.out)
 replace HB := Aside0.mk (below_step HB.out B_.out)
 have Z26 := Aside0.mk (B_.out).size
 clear B_
 go_wp2
 go_ret
 exact ⟨rfl, HB.out⟩
def laws_FnExactCircleSum.Pure : Prop := ∀ (z0 : Int) (l0 : List S110), (Lit.int .i64 z0).wf = true → l0.length ≤ 9223372036854775807 → (∀ y ∈ l0, y.f0.length ≤ maxLen ∧ (∀ n ∈ y.f0, (Lit.int .i64 n).wf = true) ∧ (Lit.int .i64 y.f1).wf = true) → (∃ k s, laws_szSum.f k z0 l0 1048576 = some s ∧ s < 0) ∨ ∃ k c m g0 g1 p1 s0 m10 y0 q0, laws_FnExactCircleSum.Told z0 l0 k c m g0 g1 p1 s0 m10 y0 q0
set_option maxHeartbeats 4000000 in
set_option maxRecDepth 100000 in
theorem laws_FnExactCircleSum.early (A0 : Option Addr) (c0 : Nat) (z0 : Int) (l0 : List S110) (w : World) (hr0 : Kd.C k110 w A0 l0.length l0) (hc0 : l0.length ≤ c0) (k : Nat) (s : Int) (hFZ : laws_szSum.f k z0 l0 1048576 = some s) (hs : s < 0) :
  Calls Try.prog 15 #[.agg #[.int .i64 z0, .slice A0 l0.length c0]] w fun e w' => e = .returned (.bool true) ∧ Below w.heap.size w w' := by
 have huA := Try.underlying44
 have HB0 := Aside0.mk (below_alloc (Below.refl w.heap.size w) (.cells #[.int .i64 z0, .slice A0 l0.length c0] 44))
 have hz0_0 : (w.alloc (.cells #[.int .i64 z0, .slice A0 l0.length c0] 44)).cell? ⟨w.heap.size, 0, none⟩ = some (.int .i64 z0) := (blk_cell (blk_new w (.cells #[.int .i64 z0, .slice A0 l0.length c0] 44)) 0).trans rfl
 have hz0_1 : (w.alloc (.cells #[.int .i64 z0, .slice A0 l0.length c0] 44)).cell? ⟨w.heap.size, 1, none⟩ = some (.slice A0 l0.length c0) := (blk_cell (blk_new w (.cells #[.int .i64 z0, .slice A0 l0.length c0] 44)) 1).trans rfl
 have FZ := Aside0.mk hFZ
 clear hFZ
 have HA0 := Aside0.mk (Kd.C_below hr0 HB0.out)
 have HC0 := Aside0.mk hc0
 clear hr0 hc0
 have ds : decide (s < 0) = true := decide_eq_true hs
 clear hs
 go_enter Try.func15, Try.ntmps15
 go_wp2_with fail
 refine (laws_szSum.calls k z0 _ _ l0 1048576 s _ HA0.out HC0.out FZ.out).mono ?_
 rintro e w2 ⟨rfl, hb⟩
 have HB2 := Aside0.mk (below_step HB0.out hb)
 clear hb
 go_wp2
 go_ret
 exact ⟨rfl, HB2.out⟩
theorem laws_FnExactCircleSum.walk (P : laws_FnExactCircleSum.Pure) (A0 : Option Addr) (c0 : Nat) (z0 : Int) (l0 : List S110) (w : World) (hr0 : Kd.C k110 w A0 l0.length l0) (hc0 : l0.length ≤ c0) (wz0 : (Lit.int .i64 z0).wf = true) (hg0 : ∀ y ∈ l0, y.f0.length ≤ maxLen ∧ (∀ n ∈ y.f0, (Lit.int .i64 n).wf = true) ∧ (Lit.int .i64 y.f1).wf = true) :
  Calls Try.prog 15 #[.agg #[.int .i64 z0, .slice A0 l0.length c0]] w fun e w' => e = .returned (.bool true) ∧ Below w.heap.size w w' := by
 rcases P z0 l0 wz0 hr0.2.1 hg0 with ⟨k, s, h1, h2⟩ | ⟨k, c, m, g0, g1, p1, s0, m10, y0, q0, h⟩
 ·exact laws_FnExactCircleSum.early _ _ z0 l0 w hr0 hc0 k s h1 h2
 exact laws_FnExactCircleSum.one _ _ z0 l0 w hr0 hc0 k c m g0 g1 p1 s0 m10 y0 q0 h
end Go.Proofs.Ytpfhbdpmafcnfaa.G
