-- Written by the session's program mk.py (which runs the kit's print.py over functions and over contracts given by hand).
import Derived.Test.YtpfhbdpmafcnfaaTG0
import Derived.Test.YtpfhbdpmafcnfaaTG77
import Derived.Test.YtpfhbdpmafcnfaaTGgA
import Derived.Test.YtpfhbdpmafcnfaaTGgC
import Derived.Test.YtpfhbdpmafcnfaaTRoGgD
import Derived.Test.YtpfhbdpmafcnfaaTGgI
import Derived.Test.YtpfhbdpmafcnfaaTRoGgK
import Derived.Test.YtpfhbdpmafcnfaaTGgP
import Derived.Test.YtpfhbdpmafcnfaaTGgQ
import Derived.Test.YtpfhbdpmafcnfaaTGgS
import Derived.Test.YtpfhbdpmafcnfaaTRoGgT
import Derived.Test.YtpfhbdpmafcnfaaTGgW
import Derived.Test.YtpfhbdpmafcnfaaTRoGgZ
import Derived.Test.YtpfhbdpmafcnfaaTPlainA
namespace Go.Proofs.Ytpfhbdpmafcnfaa.G
open Go.RowKit Go.Maps Go.Proofs.YtpfhbdpmafcnfaaW.PrintWords Go.Proofs.YtpfhbdpmafcnfaaW.PrintLast Go.Proofs.YtpfhbdpmafcnfaaW.PrintMore
attribute [local go_sem] max2_int min2_int max_two min_two max_three min_three max_four min_four   -- for this text's walks alone
set_option linter.unusedVariables false
set_option linter.unusedSimpArgs false

open Go.Proofs.Ytpfhbdpmafcnfaa.Plain
/-! ### spec_RotateSum: function 50 -/
def spec_RotateSum.l0 : Nat → Int → Int → Int → List (S89) → Int → List (S89) → Option (Int × (List (S89)) × Int)
 | 0, _, _, _, _, _, _ => none
 | k + 1, x1, x7, x102000, x102001, x110000, x110001 => if x7 < (x102001.length : Int) then (if 0 ≤ x7 then (if (((rd_T89 x102001 x7).f0).length : Int) > 0 then (if (((rd_T89 x102001 x7).f0).length : Int) = 0 then (none) else ((spec_l01Rotate.f k ((rd_T89 x102001 x7).f0) (Int.tmod x1 (((rd_T89 x102001 x7).f0).length : Int))).bind fun t111 => ((spec_l03Put.f k x110000 x110001 t111 ((rd_T89 x102001 x7).f1)).bind fun bt115 => (spec_RotateSum.l0 k x1 (wrap64 (x7 + 1)) x102000 x102001 bt115.1 bt115.2)))) else ((spec_l03Put.f k x110000 x110001 ((rd_T89 x102001 x7).f0) ((rd_T89 x102001 x7).f1)).bind fun bt120 => (spec_RotateSum.l0 k x1 (wrap64 (x7 + 1)) x102000 x102001 bt120.1 bt120.2))) else (none)) else (some (x110000, x110001, 0))
def spec_RotateSum.f (k : Nat) (a0_0 : Int) (l0_1 : List (S89)) (a1 : Int) : Option (Int × (List (S89)) × Int) := (spec_l03Is.f k a0_0 l0_1).bind fun t103 => (if t103 = true then ((spec_l01In.f a1 0 1000).bind fun t104 => (if t104 = true then ((spec_l03Empty.f a0_0).bind fun bt105 => (spec_RotateSum.l0 k a1 0 a0_0 l0_1 bt105.1 bt105.2)) else (some (0, ([] : List (S89)), 2)))) else (some (0, ([] : List (S89)), 1)))
def spec_RotateSum.T12 : Bool × List (List Nat × List Nat) := (true, [([], []), ([], []), ([], []), ([2], [2]), ([], []), ([3, 4], [3, 4]), ([5], [5]), ([6], [6]), ([0, 1, 7], [0, 1, 7]), ([8, 8, 0, 1, 2, 3, 4, 5, 6, 7, 8], [8])])
def spec_RotateSum.B12 : List Nat := [0, 0, 0, 4, 0, 28, 60, 124, 255, 511]
theorem spec_RotateSum.tab12 : rtab .any (opsOf Try.f50 12) = spec_RotateSum.T12 := by kernel_rfl
theorem spec_RotateSum.bits12 : waitsOk spec_RotateSum.T12.2 spec_RotateSum.B12 = true := by kernel_rfl
set_option maxHeartbeats 8000000 in
set_option maxRecDepth 100000 in
theorem spec_RotateSum.calls (k : Nat) (a0_0 : Int) (A0_1 : Option Addr) (c0_1 : Nat) (l0_1 : List (S89)) (a1 : Int) (r1 : Int) (r2 : List (S89)) (r3 : Int) (w : World) (hr0_1 : Kd.C k89 w A0_1 l0_1.length l0_1) (hc0_1 : l0_1.length ≤ c0_1) (h : spec_RotateSum.f k a0_0 l0_1 a1 = some (r1, r2, r3)) :
  Calls Try.prog 50 #[.agg #[.int .i64 a0_0, .slice A0_1 l0_1.length c0_1], .int .i64 a1] w fun e w' => ∃ v1_ : Value, e = .returned (.tuple #[.agg #[.int .i64 r1, v1_], .int .i64 r3]) ∧ Kd.S k89 89 w' w.heap.size (fun _ => True) v1_ r2 ∧ Below w.heap.size w w' := by
 have hu49 := Try.underlying49
 have HR0_1 := Aside0.mk hr0_1
 have HC0_1 := Aside0.mk hc0_1
 clear hr0_1 hc0_1
 have HB := Aside0.mk (Below.refl w.heap.size w)
 have H : ((spec_l03Is.f k a0_0 l0_1).bind fun t103 => (if t103 = true then ((spec_l01In.f a1 0 1000).bind fun t104 => (if t104 = true then ((spec_l03Empty.f a0_0).bind fun bt105 => (spec_RotateSum.l0 k a1 0 a0_0 l0_1 bt105.1 bt105.2)) else (some (0, ([] : List (S89)), 2)))) else (some (0, ([] : List (S89)), 1)))) = some (r1, r2, r3) := h
 clear h
 replace H := Option.bind_eq_some_iff.mp H
 obtain ⟨t103, A30, H⟩ := H
 replace H : (if t103 = true then ((spec_l01In.f a1 0 1000).bind fun t104 => (if t104 = true then ((spec_l03Empty.f a0_0).bind fun bt105 => (spec_RotateSum.l0 k a1 0 a0_0 l0_1 bt105.1 bt105.2)) else (some (0, ([] : List (S89)), 2)))) else (some (0, ([] : List (S89)), 1))) = some (r1, r2, r3) := H
 have A3 := Aside0.mk A30
 clear A30
 by_cases c4 : t103 = true
 ·subst c4
  have H1 : ((spec_l01In.f a1 0 1000).bind fun t104 => (if t104 = true then ((spec_l03Empty.f a0_0).bind fun bt105 => (spec_RotateSum.l0 k a1 0 a0_0 l0_1 bt105.1 bt105.2)) else (some (0, ([] : List (S89)), 2)))) = some (r1, r2, r3) := by rw [if_pos rfl] at H; exact H
  clear H
  have H := H1
  clear H1
  replace H := Option.bind_eq_some_iff.mp H
  obtain ⟨t104, A50, H⟩ := H
  replace H : (if t104 = true then ((spec_l03Empty.f a0_0).bind fun bt105 => (spec_RotateSum.l0 k a1 0 a0_0 l0_1 bt105.1 bt105.2)) else (some (0, ([] : List (S89)), 2))) = some (r1, r2, r3) := H
  have A5 := Aside0.mk A50
  clear A50
  by_cases c6 : t104 = true
  ·subst c6
   have H1 : ((spec_l03Empty.f a0_0).bind fun bt105 => (spec_RotateSum.l0 k a1 0 a0_0 l0_1 bt105.1 bt105.2)) = some (r1, r2, r3) := by rw [if_pos rfl] at H; exact H
   clear H
   have H := H1
   clear H1
   replace H := Option.bind_eq_some_iff.mp H
   obtain ⟨⟨t105, t106⟩, A70, H⟩ := H
   replace H : (spec_RotateSum.l0 k a1 0 a0_0 l0_1 t105 t106) = some (r1, r2, r3) := H
   have A7 := Aside0.mk A70
   clear A70
   have H' := Aside0.mk H
   clear H
   go_enter Try.func50, Try.ntmps50
   go_wp2_with (first | ((with_reducible refine gate_dst (N := 2) rfl ?_); refine box_event ?hg (N := 2) ?hd (cs := #[.int .i64 a0_0, .slice A0_1 l0_1.length c0_1]) (t := 49) ?hr ?_; (case hd => rfl); (case hg => rfl); (case hr => first | (go_simp; done) | (go_simp; rfl)); intro gb101 hg w8 hbox hb; have n0_ := Aside0.mk (below_step (by repeat (first | (with_reducible first | exact HB.out | apply below_alloc | apply pw_below_drewN | apply below_drew1) | exact HB.out)) hb); have n1_ := Aside0.mk (hbox); have n2_ := Aside0.mk ((by rw [hg]; exact (below_size (by repeat (first | (with_reducible first | exact HB.out | apply below_alloc | apply pw_below_drewN | apply below_drew1) | exact HB.out))) : w.heap.size ≤ gb101)); have n3_ := Aside0.mk ((by rw [hg]; exact (below_size (by repeat (first | (with_reducible first | exact HB.out | apply below_alloc | apply pw_below_drewN | apply below_drew1) | exact HB.out))) : w.heap.size ≤ gb101)); clear HB; have HB := n0_; have BK101 := n1_; have GW101 := n2_; have GE101 := n3_; clear n0_ n1_ n2_ n3_; clear hb hbox hg) | ((with_reducible refine gate_dst (N := 4) rfl ?_); refine box_event ?hg (N := 4) ?hd (cs := #[.int .i64 0, .slice none 0 0]) (t := 49) ?hr ?_; (case hd => rfl); (case hg => rfl); (case hr => first | (go_simp; done) | (go_simp; rfl)); intro gb102 hg w9 hbox hb; have n0_ := Aside0.mk (blk_below (g := gb101) (o := .cells #[.int .i64 a0_0, .slice A0_1 l0_1.length c0_1] 49 (0, 0)) (by (with_reducible repeat (first | refine blk_drewN ?_ _ | refine blk_drew ?_ | refine blk_alloc ?_ _)); exact BK101.out) hb); have n1_ := Aside0.mk (below_step (by repeat (first | (with_reducible first | exact HB.out | apply below_alloc | apply pw_below_drewN | apply below_drew1 | refine below_set ?_ GE101.out) | exact HB.out)) hb); have n2_ := Aside0.mk (hbox); have n3_ := Aside0.mk ((by rw [hg]; exact (below_size (by repeat (first | (with_reducible first | exact HB.out | apply below_alloc | apply pw_below_drewN | apply below_drew1 | refine below_set ?_ GE101.out) | exact HB.out))) : w.heap.size ≤ gb102)); have n4_ := Aside0.mk ((by rw [hg]; exact (below_size (by repeat (first | (with_reducible first | exact HB.out | apply below_alloc | apply pw_below_drewN | apply below_drew1 | refine below_set ?_ GE101.out) | exact HB.out))) : w.heap.size ≤ gb102)); have n5_ := Aside0.mk ((by rw [hg]; exact Nat.ne_of_lt (blk_lt (g := gb101) (o := .cells #[.int .i64 a0_0, .slice A0_1 l0_1.length c0_1] 49 (0, 0)) (by (with_reducible repeat (first | refine blk_drewN ?_ _ | refine blk_drew ?_ | refine blk_alloc ?_ _)); exact BK101.out)) : gb101 ≠ gb102)); have n6_ := Aside0.mk ((by rw [hg]; exact Nat.ne_of_gt (blk_lt (g := gb101) (o := .cells #[.int .i64 a0_0, .slice A0_1 l0_1.length c0_1] 49 (0, 0)) (by (with_reducible repeat (first | refine blk_drewN ?_ _ | refine blk_drew ?_ | refine blk_alloc ?_ _)); exact BK101.out)) : gb102 ≠ gb101)); clear BK101; clear HB; have BK101 := n0_; have HB := n1_; have BK102 := n2_; have GW102 := n3_; have GE102 := n4_; have NB101_102 := n5_; have NB102_101 := n6_; clear n0_ n1_ n2_ n3_ n4_ n5_ n6_; clear hb hbox hg; have hnb10 := NB101_102.out; have hnc10 := NB102_101.out; have hcz11_0 : w9.cell? ⟨gb101, 0, none⟩ = some (.int .i64 a0_0) := (blk_cell BK101.out 0).trans rfl; have hcz11_1 : w9.cell? ⟨gb101, 1, none⟩ = some (.slice A0_1 l0_1.length c0_1) := (blk_cell BK101.out 1).trans rfl; have hfz11_0 := blk_frozen BK101.out 0; have hfz11_1 := blk_frozen BK101.out 1) | ((with_reducible refine gate_callee (f := 77) rfl ?_); refine goesL_ (some 11) rfl rfl Try.func77 (by kernel_rfl) rfl #[.agg #[.int .i64 a0_0, .slice A0_1 l0_1.length c0_1]] rfl (by (try simp only [List.map_toArray, List.map_cons, List.map_nil]); first | done | rfl | (simp only [List.length_drop, List.length_take]; rfl)) ?_; (with_reducible refine (spec_l03Is.calls k a0_0 _ _ l0_1 true _ ?side1 ?side2 A3.out).mono ?_); (case side1 => repeat (first | exact (Kd.C_below HR0_1.out HB.out) | (with_reducible refine Kd.C_alloc ?_ _) | (with_reducible refine Kd.C_drewN ?_ _) | (with_reducible refine Kd.C_drew ?_))); (case side2 => exact HC0_1.out); rintro e w12 ⟨rfl, hb⟩; refine ⟨_, rfl, ?_⟩; have n0_ := Aside0.mk (blk_below (g := gb101) (o := .cells #[.int .i64 a0_0, .slice A0_1 l0_1.length c0_1] 49 (0, 0)) (by (with_reducible repeat (first | refine blk_drewN ?_ _ | refine blk_drew ?_ | refine blk_alloc ?_ _)); exact BK101.out) hb); have n1_ := Aside0.mk (blk_below (g := gb102) (o := .cells #[.int .i64 0, .slice none 0 0] 49 (0, 0)) (by (with_reducible repeat (first | refine blk_drewN ?_ _ | refine blk_drew ?_ | refine blk_alloc ?_ _)); exact BK102.out) hb); have n2_ := Aside0.mk (below_step (by repeat (first | (with_reducible first | exact HB.out | apply below_alloc | apply pw_below_drewN | apply below_drew1 | refine below_set ?_ GE101.out | refine below_set ?_ GE102.out) | exact HB.out)) hb); clear BK101; clear BK102; clear HB; have BK101 := n0_; have BK102 := n1_; have HB := n2_; clear n0_ n1_ n2_; (try clear hb); (try clear hb2); (try clear hk); (try clear hi)) | ((with_reducible refine gate_callee (f := 59) rfl ?_); refine goesL_ (some 16) rfl rfl Try.func59 (by kernel_rfl) rfl #[.int .i64 a1, .int .i64 0, .int .i64 1000] rfl (by (try simp only [List.map_toArray, List.map_cons, List.map_nil]); first | done | rfl | (simp only [List.length_drop, List.length_take]; rfl)) ?_; (with_reducible refine (spec_l01In.calls a1 0 1000 true _ A5.out).mono ?_); rintro e w' ⟨rfl, ⟨nd, rfl⟩⟩; refine ⟨_, rfl, ?_⟩; (try (rw [drewN_self w12]; generalize hq_ : World.drewN w12 _ = w12; have n0_ : Aside0 (w12.heap[gb101]? = some (.cells #[.int .i64 a0_0, .slice A0_1 l0_1.length c0_1] 49 (0, 0))) := ⟨by rw [← hq_]; exact (by (with_reducible repeat (first | refine blk_drewN ?_ _ | refine blk_drew ?_ | refine blk_alloc ?_ _)); exact BK101.out)⟩; have n1_ : Aside0 (w12.heap[gb102]? = some (.cells #[.int .i64 0, .slice none 0 0] 49 (0, 0))) := ⟨by rw [← hq_]; exact (by (with_reducible repeat (first | refine blk_drewN ?_ _ | refine blk_drew ?_ | refine blk_alloc ?_ _)); exact BK102.out)⟩; have n2_ : Aside0 (Below w.heap.size w w12) := ⟨by rw [← hq_]; exact (by repeat (first | (with_reducible first | exact HB.out | apply below_alloc | apply pw_below_drewN | apply below_drew1 | refine below_set ?_ GE101.out | refine below_set ?_ GE102.out) | exact HB.out))⟩; clear BK101 BK102 HB hq_; have BK101 := n0_; have BK102 := n1_; have HB := n2_; clear n0_ n1_ n2_)); have hcz13_0 : w12.cell? ⟨gb101, 0, none⟩ = some (.int .i64 a0_0) := (blk_cell BK101.out 0).trans rfl; have hcz13_1 : w12.cell? ⟨gb101, 1, none⟩ = some (.slice A0_1 l0_1.length c0_1) := (blk_cell BK101.out 1).trans rfl; have hfz13_0 := blk_frozen BK101.out 0; have hfz13_1 := blk_frozen BK101.out 1) | ((with_reducible refine gate_callee (f := 87) rfl ?_); refine goesL_ (some 21) rfl rfl Try.func87 (by kernel_rfl) rfl #[.int .i64 a0_0] rfl (by (try simp only [List.map_toArray, List.map_cons, List.map_nil]); first | done | rfl | (simp only [List.length_drop, List.length_take]; rfl)) ?_; (with_reducible refine (spec_l03Empty.calls a0_0 t105 t106 _ A7.out).mono ?_); rintro e w14 ⟨v107, rfl, ho0, hb⟩; refine ⟨_, rfl, ?_⟩; have n0_ := Aside0.mk (Kd.S_lower ho0 (below_size (by repeat (first | (with_reducible first | exact HB.out | apply below_alloc | apply pw_below_drewN | apply below_drew1 | refine below_set ?_ GE101.out | refine below_set ?_ GE102.out) | exact HB.out)))); have n1_ := Aside0.mk (blk_below (g := gb101) (o := .cells #[.int .i64 a0_0, .slice A0_1 l0_1.length c0_1] 49 (0, 0)) (by (with_reducible repeat (first | refine blk_drewN ?_ _ | refine blk_drew ?_ | refine blk_alloc ?_ _)); exact BK101.out) hb); have n2_ := Aside0.mk (blk_below (g := gb102) (o := .cells #[.int .i64 0, .slice none 0 0] 49 (0, 0)) (by (with_reducible repeat (first | refine blk_drewN ?_ _ | refine blk_drew ?_ | refine blk_alloc ?_ _)); exact BK102.out) hb); have n3_ := Aside0.mk (below_step (by repeat (first | (with_reducible first | exact HB.out | apply below_alloc | apply pw_below_drewN | apply below_drew1 | refine below_set ?_ GE101.out | refine below_set ?_ GE102.out) | exact HB.out)) hb); clear BK101; clear BK102; clear HB; have HO108 := n0_; have BK101 := n1_; have BK102 := n2_; have HB := n3_; clear n0_ n1_ n2_ n3_; (try clear hb); (try clear hb2); (try clear hk); (try clear hi); (try clear ho0)) | ((with_reducible refine gate_dst (N := 6) rfl ?_); refine box_event ?hg (N := 6) ?hd (cs := #[.int .i64 0, .slice none 0 0]) (t := 49) ?hr ?_; (case hd => rfl); (case hg => rfl); (case hr => first | (go_simp; done) | (go_simp; rfl)); intro gb109 hg w15 hbox hb; have n0_ := Aside0.mk (Kd.S_below (by (with_reducible repeat (first | apply Kd.S_alloc | apply Kd.S_drewN | apply Kd.S_drew)); exact HO108.out) hb); have n1_ := Aside0.mk (blk_below (g := gb101) (o := .cells #[.int .i64 a0_0, .slice A0_1 l0_1.length c0_1] 49 (0, 0)) (by (with_reducible repeat (first | refine blk_drewN ?_ _ | refine blk_drew ?_ | refine blk_alloc ?_ _)); exact BK101.out) hb); have n2_ := Aside0.mk (blk_below (g := gb102) (o := .cells #[.int .i64 0, .slice none 0 0] 49 (0, 0)) (by (with_reducible repeat (first | refine blk_drewN ?_ _ | refine blk_drew ?_ | refine blk_alloc ?_ _)); exact BK102.out) hb); have n3_ := Aside0.mk (below_step (by repeat (first | (with_reducible first | exact HB.out | apply below_alloc | apply pw_below_drewN | apply below_drew1 | refine below_set ?_ GE101.out | refine below_set ?_ GE102.out) | exact HB.out)) hb); have n4_ := Aside0.mk (hbox); have n5_ := Aside0.mk ((by rw [hg]; exact (below_size (by repeat (first | (with_reducible first | exact HB.out | apply below_alloc | apply pw_below_drewN | apply below_drew1 | refine below_set ?_ GE101.out | refine below_set ?_ GE102.out) | exact HB.out))) : w.heap.size ≤ gb109)); have n6_ := Aside0.mk ((by rw [hg]; exact (below_size (by repeat (first | (with_reducible first | exact HB.out | apply below_alloc | apply pw_below_drewN | apply below_drew1 | refine below_set ?_ GE101.out | refine below_set ?_ GE102.out) | exact HB.out))) : w.heap.size ≤ gb109)); have n7_ := Aside0.mk ((by rw [hg]; exact Nat.ne_of_lt (blk_lt (g := gb101) (o := .cells #[.int .i64 a0_0, .slice A0_1 l0_1.length c0_1] 49 (0, 0)) (by (with_reducible repeat (first | refine blk_drewN ?_ _ | refine blk_drew ?_ | refine blk_alloc ?_ _)); exact BK101.out)) : gb101 ≠ gb109)); have n8_ := Aside0.mk ((by rw [hg]; exact Nat.ne_of_gt (blk_lt (g := gb101) (o := .cells #[.int .i64 a0_0, .slice A0_1 l0_1.length c0_1] 49 (0, 0)) (by (with_reducible repeat (first | refine blk_drewN ?_ _ | refine blk_drew ?_ | refine blk_alloc ?_ _)); exact BK101.out)) : gb109 ≠ gb101)); have n9_ := Aside0.mk ((by rw [hg]; exact Nat.ne_of_lt (blk_lt (g := gb102) (o := .cells #[.int .i64 0, .slice none 0 0] 49 (0, 0)) (by (with_reducible repeat (first | refine blk_drewN ?_ _ | refine blk_drew ?_ | refine blk_alloc ?_ _)); exact BK102.out)) : gb102 ≠ gb109)); have n10_ := Aside0.mk ((by rw [hg]; exact Nat.ne_of_gt (blk_lt (g := gb102) (o := .cells #[.int .i64 0, .slice none 0 0] 49 (0, 0)) (by (with_reducible repeat (first | refine blk_drewN ?_ _ | refine blk_drew ?_ | refine blk_alloc ?_ _)); exact BK102.out)) : gb109 ≠ gb102)); clear HO108; clear BK101; clear BK102; clear HB; have HO108 := n0_; have BK101 := n1_; have BK102 := n2_; have HB := n3_; have BK109 := n4_; have GW109 := n5_; have GE109 := n6_; have NB101_109 := n7_; have NB109_101 := n8_; have NB102_109 := n9_; have NB109_102 := n10_; clear n0_ n1_ n2_ n3_ n4_ n5_ n6_ n7_ n8_ n9_ n10_; clear hb hbox hg; have hnb16 := NB109_101.out; have hnc16 := NB101_109.out; have hnb17 := NB109_102.out; have hnc17 := NB102_109.out; have hcz18_0 : w15.cell? ⟨gb109, 0, none⟩ = some (.int .i64 0) := (blk_cell BK109.out 0).trans rfl; have hcz18_1 : w15.cell? ⟨gb109, 1, none⟩ = some (.slice none 0 0) := (blk_cell BK109.out 1).trans rfl; have hfz18_0 := blk_frozen BK109.out 0; have hfz18_1 := blk_frozen BK109.out 1; obtain ⟨Ao19, co19, eo19⟩ := Kd.S_slice HO108.out; subst eo19))
   go_loopg [7] k (fun kq v7 w' => ∃ (x7_1 : Int) (x110000_1 : Int) (x110001_1 : List (S89)) (u110001 : Value), v7 = .int .i64 x7_1 ∧ Aside0 (spec_RotateSum.l0 kq a1 x7_1 a0_0 l0_1 x110000_1 x110001_1 = some (r1, r2, r3)) ∧ Aside0 (kq ≤ k) ∧ Aside0 (Kd.S k89 89 w' w.heap.size (fun _ => True) u110001 x110001_1) ∧ Aside0 (w'.heap[gb101]? = some (.cells #[.int .i64 a0_0, (.slice A0_1 l0_1.length c0_1)] 49 (0, 0))) ∧ Aside0 (w'.heap[gb102]? = some (.cells #[.int .i64 0, (.slice none 0 0)] 49 (0, 0))) ∧ Aside0 (w'.heap[gb109]? = some (.cells #[.int .i64 x110000_1, u110001] 49 (0, 0))) ∧ Aside0 (Below w.heap.size w w'))
   case atStart => exact ⟨(0), (t105), (t106), (.slice Ao19 t106.length co19), (by first | rfl | (simp; done) | (simp [*]; done)), H', ⟨Nat.le_refl _⟩, ⟨by (with_reducible repeat (first | apply Kd.S_alloc | apply Kd.S_drewN | apply Kd.S_drew)); exact Kd.S_mono (Kd.S_far (p := ⟨gb109, 1, none⟩) (Kd.S_far (p := ⟨gb109, 0, none⟩) (Kd.S_types HO108.out BK109.out (by decide)) (fun _ hk => hk.2) (.int .i64 t105)) (fun _ hk => hk.2) (.slice Ao19 t106.length co19)) (fun _ hk => trivial)⟩, ⟨by (with_reducible repeat (first | refine blk_drewN ?_ _ | refine blk_drew ?_ | refine blk_alloc ?_ _)); refine blk_far ?_ NB101_109.out _; (with_reducible repeat (first | refine blk_drewN ?_ _ | refine blk_drew ?_ | refine blk_alloc ?_ _)); refine blk_far ?_ NB101_109.out _; (with_reducible repeat (first | refine blk_drewN ?_ _ | refine blk_drew ?_ | refine blk_alloc ?_ _)); exact BK101.out⟩, ⟨by (with_reducible repeat (first | refine blk_drewN ?_ _ | refine blk_drew ?_ | refine blk_alloc ?_ _)); refine blk_far ?_ NB102_109.out _; (with_reducible repeat (first | refine blk_drewN ?_ _ | refine blk_drew ?_ | refine blk_alloc ?_ _)); refine blk_far ?_ NB102_109.out _; (with_reducible repeat (first | refine blk_drewN ?_ _ | refine blk_drew ?_ | refine blk_alloc ?_ _)); exact BK102.out⟩, ⟨by (with_reducible repeat (first | refine blk_drewN ?_ _ | refine blk_drew ?_ | refine blk_alloc ?_ _)); refine blk_put (cs := #[.int .i64 t105, .slice none 0 0]) ?_ 1 _ rfl; (with_reducible repeat (first | refine blk_drewN ?_ _ | refine blk_drew ?_ | refine blk_alloc ?_ _)); refine blk_put (cs := #[.int .i64 0, .slice none 0 0]) ?_ 0 _ rfl; (with_reducible repeat (first | refine blk_drewN ?_ _ | refine blk_drew ?_ | refine blk_alloc ?_ _)); exact BK109.out⟩, ⟨by repeat (first | (with_reducible first | exact HB.out | apply below_alloc | apply pw_below_drewN | apply below_drew1 | refine below_set ?_ GE101.out | refine below_set ?_ GE102.out | refine below_set ?_ GE109.out) | exact HB.out)⟩⟩
   case round =>
    clear H'
    try clear c1
    try clear p2
    try clear c4
    try clear c5
    try clear c6
    try clear c7
    try clear c8
    try clear c10
    try clear c16
    try clear c17
    try clear hcz11_0
    try clear hcz11_1
    try clear hcz13_0
    try clear hcz13_1
    try clear hcz18_0
    try clear hcz18_1
    try clear hfz11_0
    try clear hfz11_1
    try clear hfz13_0
    try clear hfz13_1
    try clear hfz18_0
    try clear hfz18_1
    obtain ⟨x7_1, x110000_1, x110001_1, u110001, rfl, HA, HK1, HO_110001, BK101, BK102, BK109, HB⟩ := hrel
    cases gk with
    | zero => exact absurd HA.out (by simp [spec_RotateSum.l0])
    | succ k1 =>
     have H := HA.out
     clear HA
     simp only [spec_RotateSum.l0] at H
     by_cases c20 : x7_1 < (l0_1.length : Int)
     ·rw [if_pos c20] at H
      have c20b0 : decide (x7_1 < (l0_1.length : Int)) = true := decide_eq_true c20
      clear c20
      by_cases c21 : 0 ≤ x7_1
      ·rw [if_pos c21] at H
       have c21b0 : decide (0 ≤ x7_1) = true := decide_eq_true c21
       clear c21
       by_cases c22 : (((rd_T89 l0_1 x7_1).f0).length : Int) > 0
       ·rw [if_pos c22] at H
        have c22b0 : decide (0 < (((rd_T89 l0_1 x7_1).f0).length : Int)) = true := decide_eq_true c22
        have c22b1 : decide (0 < ((rd_T89 l0_1 x7_1).f0).length) = true := decide_eq_true (by omega)
        clear c22
        by_cases c23 : (((rd_T89 l0_1 x7_1).f0).length : Int) = 0
        ·rw [if_pos c23] at H
         exact absurd H (by simp)
        ·rw [if_neg c23] at H
         have c23b0 : ((((rd_T89 l0_1 x7_1).f0).length : Int) == 0) = false := beq_eq_false_iff_ne.mpr c23
         have c23b1 : ((((rd_T89 l0_1 x7_1).f0).length : Int) != 0) = true := bne_iff_ne.mpr c23
         have c23b2 : ¬ (((rd_T89 l0_1 x7_1).f0) = []) := fun h_ => c23 (by rw [h_]; rfl)
         replace H := Option.bind_eq_some_iff.mp H
         obtain ⟨t111, A240, H⟩ := H
         replace H : ((spec_l03Put.f k1 x110000_1 x110001_1 t111 ((rd_T89 l0_1 x7_1).f1)).bind fun bt115 => (spec_RotateSum.l0 k1 a1 (wrap64 (x7_1 + 1)) a0_0 l0_1 bt115.1 bt115.2)) = some (r1, r2, r3) := H
         have A24 := Aside0.mk A240
         clear A240
         replace H := Option.bind_eq_some_iff.mp H
         obtain ⟨⟨t115, t116⟩, A250, H⟩ := H
         replace H : (spec_RotateSum.l0 k1 a1 (wrap64 (x7_1 + 1)) a0_0 l0_1 t115 t116) = some (r1, r2, r3) := H
         have A25 := Aside0.mk A250
         clear A250
         have H' := Aside0.mk H
         clear H
         have hnb26 := NB101_102.out
         have hnc26 := NB102_101.out
         have hnb27 := NB101_109.out
         have hnc27 := NB109_101.out
         have hcz28_0 : wr.cell? ⟨gb101, 0, none⟩ = some (.int .i64 a0_0) := (blk_cell BK101.out 0).trans rfl
         have hcz28_1 : wr.cell? ⟨gb101, 1, none⟩ = some (.slice A0_1 l0_1.length c0_1) := (blk_cell BK101.out 1).trans rfl
         have hfz28_0 := blk_frozen BK101.out 0
         have hfz28_1 := blk_frozen BK101.out 1
         have p110 : 0 ≤ (x7_1 : Int) := of_decide_eq_true (by first | (with_reducible assumption) | assumption)
         have q110 : x7_1 < (l0_1.length : Int) := of_decide_eq_true (by first | (with_reducible assumption) | assumption)
         obtain ⟨ad110, A110_0, c110_0, e110, hx110_0, hx110_1, hl110_0, hi110_0⟩ := at_T89 HR0_1.out x7_1 p110 q110
         cases e110
         replace hx110_0 := (HB.out.cell (World.block_lt_of_cell? w _ hx110_0)).trans hx110_0
         replace hx110_1 := (HB.out.cell (World.block_lt_of_cell? w _ hx110_1)).trans hx110_1
         have HR110_0 := Aside0.mk hi110_0
         have HC110_0 := Aside0.mk hl110_0
         clear hi110_0 hl110_0
         replace p110 := eq_true p110
         replace q110 := eq_true q110
         try go_wp2_with (first | ((with_reducible refine gate_callee (f := 102) rfl ?_); refine goesL_ (some 43) rfl rfl Try.func102 (by kernel_rfl) rfl #[.slice A110_0 ((rd_T89 l0_1 x7_1).f0).length c110_0, .int .i64 (Int.tmod a1 (((rd_T89 l0_1 x7_1).f0).length : Int))] rfl (by (try simp only [List.map_toArray, List.map_cons, List.map_nil]); first | done | rfl | (simp only [List.length_drop, List.length_take]; rfl)) ?_; (with_reducible refine (spec_l01Rotate.calls k1 _ _ ((rd_T89 l0_1 x7_1).f0) (Int.tmod a1 (((rd_T89 l0_1 x7_1).f0).length : Int)) t111 _ ?side1 ?side2 A24.out).mono ?_); (case side1 => repeat (first | exact (Kd.C_below HR110_0.out HB.out) | (with_reducible refine Kd.C_alloc ?_ _) | (with_reducible refine Kd.C_drewN ?_ _) | (with_reducible refine Kd.C_drew ?_))); (case side2 => exact HC110_0.out); rintro e w29 ⟨v112, rfl, ho0, hb⟩; refine ⟨_, rfl, ?_⟩; have n0_ := Aside0.mk (Kd.S_elder' (by (with_reducible repeat (first | apply Kd.S_alloc | apply Kd.S_drewN | apply Kd.S_drew)); exact HO_110001.out) (Kd.R_base ho0) hb); have n1_ := Aside0.mk (Kd.R_lower ho0 (below_size (by repeat (first | (with_reducible first | exact HB.out | apply below_alloc | apply pw_below_drewN | apply below_drew1 | refine below_set ?_ GE101.out | refine below_set ?_ GE102.out | refine below_set ?_ GE109.out) | exact HB.out)))); have n2_ := Aside0.mk (blk_below (g := gb101) (o := .cells #[.int .i64 a0_0, .slice (some ad110) l0_1.length c0_1] 49 (0, 0)) (by (with_reducible repeat (first | refine blk_drewN ?_ _ | refine blk_drew ?_ | refine blk_alloc ?_ _)); exact BK101.out) hb); have n3_ := Aside0.mk (blk_below (g := gb102) (o := .cells #[.int .i64 0, .slice none 0 0] 49 (0, 0)) (by (with_reducible repeat (first | refine blk_drewN ?_ _ | refine blk_drew ?_ | refine blk_alloc ?_ _)); exact BK102.out) hb); have n4_ := Aside0.mk (blk_below (g := gb109) (o := .cells #[.int .i64 x110000_1, u110001] 49 (0, 0)) (by (with_reducible repeat (first | refine blk_drewN ?_ _ | refine blk_drew ?_ | refine blk_alloc ?_ _)); exact BK109.out) hb); have n5_ := Aside0.mk (below_step (by repeat (first | (with_reducible first | exact HB.out | apply below_alloc | apply pw_below_drewN | apply below_drew1 | refine below_set ?_ GE101.out | refine below_set ?_ GE102.out | refine below_set ?_ GE109.out) | exact HB.out)) hb); clear HO_110001; clear BK101; clear BK102; clear BK109; clear HB; have HO_110001 := n0_; have HO113 := n1_; have BK101 := n2_; have BK102 := n3_; have BK109 := n4_; have HB := n5_; clear n0_ n1_ n2_ n3_ n4_ n5_; (try clear hb); (try clear hb2); (try clear hk); (try clear hi); (try clear ho0)))
         have n0_ := Aside0.mk (Kd.S_drew HO_110001.out)
         have n1_ := Aside0.mk (Kd.R_drew HO113.out)
         have n2_ := Aside0.mk (blk_drew BK101.out)
         have n3_ := Aside0.mk (blk_drew BK102.out)
         have n4_ := Aside0.mk (blk_drew BK109.out)
         have n5_ := Aside0.mk (below_drew1 HB.out)
         clear HO_110001
         clear HO113
         clear BK101
         clear BK102
         clear BK109
         clear HB
         have HO_110001 := n0_
         have HO113 := n1_
         have BK101 := n2_
         have BK102 := n3_
         have BK109 := n4_
         have HB := n5_
         clear n0_ n1_ n2_ n3_ n4_ n5_
         have p114 : 0 ≤ (x7_1 : Int) := of_decide_eq_true (by first | (with_reducible assumption) | assumption)
         have q114 : x7_1 < (l0_1.length : Int) := of_decide_eq_true (by first | (with_reducible assumption) | assumption)
         obtain ⟨ad114, A114_0, c114_0, e114, hx114_0, hx114_1, hl114_0, hi114_0⟩ := at_T89 HR0_1.out x7_1 p114 q114
         have hw114_1 := hx114_1
         have hw114_0 := hx114_0
         obtain rfl : ad110 = ad114 := (by injection e114)
         replace hx114_0 := (HB.out.cell (World.block_lt_of_cell? w _ hx114_0)).trans hx114_0
         replace hx114_1 := (HB.out.cell (World.block_lt_of_cell? w _ hx114_1)).trans hx114_1
         have HR114_0 := Aside0.mk hi114_0
         have HC114_0 := Aside0.mk hl114_0
         clear hi114_0 hl114_0
         replace p114 := eq_true p114
         replace q114 := eq_true q114
         obtain ⟨Ao31, co31, eo31⟩ := Kd.S_slice HO_110001.out
         (first | subst eo31 | (injection eo31 with f1_ f2_ f3_; have f4_ := f1_.symm; have f5_ := f3_.symm; clear f1_ f2_ f3_; subst f4_; subst f5_))
         obtain ⟨Ao32, co32, eo32⟩ := Kd.R_slice HO113.out
         (first | subst eo32 | (injection eo32 with f1_ f2_ f3_; have f4_ := f1_.symm; have f5_ := f3_.symm; clear f1_ f2_ f3_; subst f4_; subst f5_))
         refine start_ (n := 10) (S := fun w' => w'.cell? ⟨gb109, 0, none⟩ = some (.int .i64 x110000_1) ∧ w'.cell? ⟨gb109, 1, none⟩ = some (.slice Ao31 x110001_1.length co31) ∧ w'.cell? ⟨gb101, 0, none⟩ = some (.int .i64 a0_0) ∧ w'.cell? ⟨gb101, 1, none⟩ = some (.slice (some ad110) l0_1.length c0_1) ∧ w'.cell? (ad110.add ((x7_1).toNat * 2)) = some (.slice A114_0 ((rd_T89 l0_1 x7_1).f0).length c114_0) ∧ w'.cell? ⟨(ad110.add ((x7_1).toNat * 2)).block, (ad110.add ((x7_1).toNat * 2)).off + 1, none⟩ = some (.int .i64 ((rd_T89 l0_1 x7_1).f1))) (ds := [9]) #[false, false, false, false, false, false, false, false, false, false] (by kernel_rfl) rfl rfl ⟨(blk_cell BK109.out 0).trans rfl, (blk_cell BK109.out 1).trans rfl, (blk_cell BK101.out 0).trans rfl, (blk_cell BK101.out 1).trans rfl, ((HB.out.cell (World.block_lt_of_cell? w _ hw114_0)).trans hw114_0), ((HB.out.cell (World.block_lt_of_cell? w _ hw114_1)).trans hw114_1)⟩ (fun hHeld => ?_); refine with_tabW spec_RotateSum.tab12 spec_RotateSum.bits12 (fun HT_ HW_ => ?_)
         generalize w29.drew = w30 at HO_110001 HO113 BK101 BK102 BK109 HB HR114_0 hx114_0 hx114_1 hHeld ⊢
         refine pure_ (i := 1) (N := some 45) (v := ?_) (a' := ?_) #[false, true, false, false, false, false, false, false, false, false] rfl rfl (any_of HT_.out (by kernel_rfl)) (fun _ _ _ h => h) (Or.inl ⟨by rfl, ?_⟩) ?_ ?_
         rotate_left
         ·intro w'
          go_simp
          with_reducible rfl
         rotate_left
         ·simp only [Act.put, sA, sZ, sS, i64_w, i32_w]
          rfl
         refine pure_ (i := 2) (N := some 46) (v := ?_) (a' := ?_) #[false, true, true, false, false, false, false, false, false, false] rfl rfl (any_of HT_.out (by kernel_rfl)) (fun _ _ _ h => h) (Or.inl ⟨by rfl, ?_⟩) ?_ ?_
         rotate_left
         ·intro w'
          go_simp
          with_reducible rfl
         rotate_left
         ·simp only [Act.put, sA, sZ, sS, i64_w, i32_w]
          rfl
         refine pure_ (i := 4) (N := some 48) (v := ?_) (a' := ?_) #[false, true, true, false, true, false, false, false, false, false] rfl rfl (any_of HT_.out (by kernel_rfl)) (fun _ _ _ h => h) (Or.inl ⟨by rfl, ?_⟩) ?_ ?_
         rotate_left
         ·intro w'
          go_simp
          with_reducible rfl
         rotate_left
         ·simp only [Act.put, sA, sZ, sS, i64_w, i32_w]
          rfl
         refine take_ (i := 0) (N := some 44) (v := ?_) (a' := ?_) #[true, true, true, false, true, false, false, false, false, false] rfl rfl (take_ofW HT_.out HW_.out (by kernel_rfl)) (fun _ _ _ h => h) (Or.inl ⟨by rfl, ?_⟩) hHeld ?_ ?_
         rotate_left
         ·rintro w' ⟨s0, s1, s2, s3, s4, s5⟩
          go_simp
          with_reducible rfl
         rotate_left
         ·simp only [Act.put, sA, sZ, sS, i64_w, i32_w]
          rfl
         refine take_ (i := 3) (N := some 47) (v := ?_) (a' := ?_) #[true, true, true, true, true, false, false, false, false, false] rfl rfl (take_ofW HT_.out HW_.out (by kernel_rfl)) (fun _ _ _ h => h) (Or.inl ⟨by rfl, ?_⟩) hHeld ?_ ?_
         rotate_left
         ·rintro w' ⟨s0, s1, s2, s3, s4, s5⟩
          go_simp
          with_reducible rfl
         rotate_left
         ·simp only [Act.put, sA, sZ, sS, i64_w, i32_w]
          rfl
         refine pure_ (i := 5) (N := some 49) (v := ?_) (a' := ?_) #[true, true, true, true, true, true, false, false, false, false] rfl rfl (any_of HT_.out (by kernel_rfl)) (fun _ _ _ h => h) (Or.inl ⟨by rfl, ?_⟩) ?_ ?_
         rotate_left
         ·intro w'
          go_simp
          with_reducible rfl
         rotate_left
         ·simp only [Act.put, sA, sZ, sS, i64_w, i32_w]
          rfl
         refine pure_ (i := 6) (N := some 50) (v := ?_) (a' := ?_) #[true, true, true, true, true, true, true, false, false, false] rfl rfl (any_of HT_.out (by kernel_rfl)) (fun _ _ _ h => h) (Or.inl ⟨by rfl, ?_⟩) ?_ ?_
         rotate_left
         ·intro w'
          go_simp
          with_reducible rfl
         rotate_left
         ·simp only [Act.put, sA, sZ, sS, i64_w, i32_w]
          rfl
         refine take_ (i := 7) (N := some 51) (v := ?_) (a' := ?_) #[true, true, true, true, true, true, true, true, false, false] rfl rfl (take_ofW HT_.out HW_.out (by kernel_rfl)) (fun _ _ _ h => h) (Or.inl ⟨by rfl, ?_⟩) hHeld ?_ ?_
         rotate_left
         ·rintro w' ⟨s0, s1, s2, s3, s4, s5⟩
          go_simp
          with_reducible rfl
         rotate_left
         ·simp only [Act.put, sA, sZ, sS, i64_w, i32_w]
          rfl
         refine one_ (i := 8) (N := some 52) #[true, true, true, true, true, true, true, true, true, false] rfl rfl (one_of HT_.out (by kernel_rfl)) (by decide) (fun K hK => ?_)
         refine goes_ Try.func86 (by kernel_rfl) rfl #[.agg #[.int .i64 x110000_1, .slice Ao31 x110001_1.length co31], .slice Ao32 t111.length co32, .int .i64 ((rd_T89 l0_1 x7_1).f1)] (by rfl) rfl rfl (by (try simp only [List.map_toArray, List.map_cons, List.map_nil]); first | done | rfl | (simp only [List.length_drop, List.length_take]; rfl)) ?_
         with_reducible refine (spec_l03Put.calls k1 x110000_1 _ _ x110001_1 _ _ t111 ((rd_T89 l0_1 x7_1).f1) t115 t116 _ ?side1 ?side2 ?side3 ?side4 A25.out).mono ?_
         (case side1 => repeat (first | exact (Kd.S_reads' HO_110001.out).2.2 | (with_reducible refine Kd.C_alloc ?_ _) | (with_reducible refine Kd.C_drewN ?_ _) | (with_reducible refine Kd.C_drew ?_)))
         (case side2 => exact (Kd.S_reads' HO_110001.out).2.1)
         (case side3 => repeat (first | exact (Kd.R_reads' HO113.out).2.2 | (with_reducible refine Kd.C_alloc ?_ _) | (with_reducible refine Kd.C_drewN ?_ _) | (with_reducible refine Kd.C_drew ?_)))
         (case side4 => exact (Kd.R_reads' HO113.out).2.1)
         rintro e w33 ⟨v117, rfl, ho0, hb⟩
         refine ⟨_, rfl, ?_⟩
         have n0_ := Aside0.mk (Kd.S_elder' (by (with_reducible repeat (first | apply Kd.S_alloc | apply Kd.S_drewN | apply Kd.S_drew)); exact HO_110001.out) (Kd.S_base ho0) hb)
         have n1_ := Aside0.mk (Kd.R_below (by (with_reducible repeat (first | apply Kd.R_alloc | apply Kd.R_drewN | apply Kd.R_drew)); exact HO113.out) hb)
         have n2_ := Aside0.mk (Kd.S_lower (Kd.S_new' (Kd.S_new' ho0 (Kd.S_lt (by (with_reducible repeat (first | apply Kd.S_alloc | apply Kd.S_drewN | apply Kd.S_drew)); exact HO_110001.out))) (Kd.R_lt (by (with_reducible repeat (first | apply Kd.R_alloc | apply Kd.R_drewN | apply Kd.R_drew)); exact HO113.out))) (below_size (by repeat (first | (with_reducible first | exact HB.out | apply below_alloc | apply pw_below_drewN | apply below_drew1 | refine below_set ?_ GE101.out | refine below_set ?_ GE102.out | refine below_set ?_ GE109.out) | exact HB.out))))
         have n3_ := Aside0.mk (blk_below (g := gb101) (o := .cells #[.int .i64 a0_0, .slice (some ad110) l0_1.length c0_1] 49 (0, 0)) (by (with_reducible repeat (first | refine blk_drewN ?_ _ | refine blk_drew ?_ | refine blk_alloc ?_ _)); exact BK101.out) hb)
         have n4_ := Aside0.mk (blk_below (g := gb102) (o := .cells #[.int .i64 0, .slice none 0 0] 49 (0, 0)) (by (with_reducible repeat (first | refine blk_drewN ?_ _ | refine blk_drew ?_ | refine blk_alloc ?_ _)); exact BK102.out) hb)
         have n5_ := Aside0.mk (blk_below (g := gb109) (o := .cells #[.int .i64 x110000_1, .slice Ao31 x110001_1.length co31] 49 (0, 0)) (by (with_reducible repeat (first | refine blk_drewN ?_ _ | refine blk_drew ?_ | refine blk_alloc ?_ _)); exact BK109.out) hb)
         have n6_ := Aside0.mk (below_step (by repeat (first | (with_reducible first | exact HB.out | apply below_alloc | apply pw_below_drewN | apply below_drew1 | refine below_set ?_ GE101.out | refine below_set ?_ GE102.out | refine below_set ?_ GE109.out) | exact HB.out)) hb)
         clear HO_110001
         clear HO113
         clear BK101
         clear BK102
         clear BK109
         clear HB
         have HO_110001 := n0_
         have HO113 := n1_
         have HO118 := n2_
         have BK101 := n3_
         have BK102 := n4_
         have BK109 := n5_
         have HB := n6_
         clear n0_ n1_ n2_ n3_ n4_ n5_ n6_
         (try clear hb)
         (try clear hb2)
         (try clear hk)
         (try clear hi)
         (try clear ho0)
         obtain ⟨Ao35, co35, eo35⟩ := Kd.S_slice HO118.out
         (first | subst eo35 | (injection eo35 with f1_ f2_ f3_; have f4_ := f1_.symm; have f5_ := f3_.symm; clear f1_ f2_ f3_; subst f4_; subst f5_))
         refine hK.out _ _ ⟨(blk_cell BK109.out 0).trans rfl, (blk_cell BK109.out 1).trans rfl, (blk_cell BK101.out 0).trans rfl, (blk_cell BK101.out 1).trans rfl, ((HB.out.cell (World.block_lt_of_cell? w _ hw114_0)).trans hw114_0), ((HB.out.cell (World.block_lt_of_cell? w _ hw114_1)).trans hw114_1)⟩ (fun hHeld => ?_)
         clear hK K
         refine norm_ (a' := ?_) ?_ ?_
         rotate_left
         ·show Act.put _ (some 52) _ = _
          simp only [Act.put, sA, sZ, sS, i64_w, i32_w]
          rfl
         refine last_ (i := 9) (N := none) #[true, true, true, true, true, true, true, true, true, true] rfl rfl (one_of HT_.out (by kernel_rfl)) (by decide) (fun K hK => ?_)
         have hs34 : w33.cell? ⟨gb109, 0, none⟩ = some (.int .i64 x110000_1) := (blk_cell BK109.out 0).trans rfl
         have hfs34 := blk_frozen BK109.out 0
         have hns34_0 := NB101_109.out
         have hns34_1 := NB102_109.out
         have hms34_0 := NB109_101.out
         have hms34_1 := NB109_102.out
         have hs36 : w33.cell? ⟨gb109, 1, none⟩ = some (.slice Ao31 x110001_1.length co31) := (blk_cell BK109.out 1).trans rfl
         have hfs36 := blk_frozen BK109.out 1
         have hns36_0 := NB101_109.out
         have hns36_1 := NB102_109.out
         have hms36_0 := NB109_101.out
         have hms36_1 := NB109_102.out
         refine skip_ (w1 := ?_) (by rfl) rfl ?_ ?_
         rotate_left
         ·go_simp
          rfl
         refine hK.out _ _ ?_
         clear hK K
         refine done_ (done_of HT_.out (by kernel_rfl)) ?_
         try go_wp2
         go_roundg k1
         case measure => have := HK1.out; omega
         case rel => exact ⟨(wrap64 (x7_1 + 1)), (t115), (t116), (.slice Ao35 t116.length co35), (by first | rfl | (simp; done) | (simp [*]; done)), H', ⟨by have := HK1.out; omega⟩, ⟨by (with_reducible repeat (first | apply Kd.S_alloc | apply Kd.S_drewN | apply Kd.S_drew)); exact Kd.S_mono (Kd.S_far (p := ⟨gb109, 1, none⟩) (Kd.S_far (p := ⟨gb109, 0, none⟩) (Kd.S_types HO118.out BK109.out (by decide)) (fun _ hk => hk.2) (.int .i64 t115)) (fun _ hk => hk.2) (.slice Ao35 t116.length co35)) (fun _ hk => trivial)⟩, ⟨by (with_reducible repeat (first | refine blk_drewN ?_ _ | refine blk_drew ?_ | refine blk_alloc ?_ _)); refine blk_far ?_ NB101_109.out _; (with_reducible repeat (first | refine blk_drewN ?_ _ | refine blk_drew ?_ | refine blk_alloc ?_ _)); refine blk_far ?_ NB101_109.out _; (with_reducible repeat (first | refine blk_drewN ?_ _ | refine blk_drew ?_ | refine blk_alloc ?_ _)); exact BK101.out⟩, ⟨by (with_reducible repeat (first | refine blk_drewN ?_ _ | refine blk_drew ?_ | refine blk_alloc ?_ _)); refine blk_far ?_ NB102_109.out _; (with_reducible repeat (first | refine blk_drewN ?_ _ | refine blk_drew ?_ | refine blk_alloc ?_ _)); refine blk_far ?_ NB102_109.out _; (with_reducible repeat (first | refine blk_drewN ?_ _ | refine blk_drew ?_ | refine blk_alloc ?_ _)); exact BK102.out⟩, ⟨by (with_reducible repeat (first | refine blk_drewN ?_ _ | refine blk_drew ?_ | refine blk_alloc ?_ _)); refine blk_put (cs := #[.int .i64 t115, .slice Ao31 x110001_1.length co31]) ?_ 1 _ rfl; (with_reducible repeat (first | refine blk_drewN ?_ _ | refine blk_drew ?_ | refine blk_alloc ?_ _)); refine blk_put (cs := #[.int .i64 x110000_1, .slice Ao31 x110001_1.length co31]) ?_ 0 _ rfl; (with_reducible repeat (first | refine blk_drewN ?_ _ | refine blk_drew ?_ | refine blk_alloc ?_ _)); exact BK109.out⟩, ⟨by repeat (first | (with_reducible first | exact HB.out | apply below_alloc | apply pw_below_drewN | apply below_drew1 | refine below_set ?_ GE101.out | refine below_set ?_ GE102.out | refine below_set ?_ GE109.out) | exact HB.out)⟩⟩
       ·rw [if_neg c22] at H
        have c22b0 : decide (0 < (((rd_T89 l0_1 x7_1).f0).length : Int)) = false := decide_eq_false c22
        have c22b1 : decide (0 < ((rd_T89 l0_1 x7_1).f0).length) = false := decide_eq_false (by omega)
        clear c22
        replace H := Option.bind_eq_some_iff.mp H
        obtain ⟨⟨t120, t121⟩, A370, H⟩ := H
        replace H : (spec_RotateSum.l0 k1 a1 (wrap64 (x7_1 + 1)) a0_0 l0_1 t120 t121) = some (r1, r2, r3) := H
        have A37 := Aside0.mk A370
        clear A370
        have H' := Aside0.mk H
        clear H
        have hnb38 := NB101_102.out
        have hnc38 := NB102_101.out
        have hnb39 := NB101_109.out
        have hnc39 := NB109_101.out
        have hcz40_0 : wr.cell? ⟨gb101, 0, none⟩ = some (.int .i64 a0_0) := (blk_cell BK101.out 0).trans rfl
        have hcz40_1 : wr.cell? ⟨gb101, 1, none⟩ = some (.slice A0_1 l0_1.length c0_1) := (blk_cell BK101.out 1).trans rfl
        have hfz40_0 := blk_frozen BK101.out 0
        have hfz40_1 := blk_frozen BK101.out 1
        have p110 : 0 ≤ (x7_1 : Int) := of_decide_eq_true (by first | (with_reducible assumption) | assumption)
        have q110 : x7_1 < (l0_1.length : Int) := of_decide_eq_true (by first | (with_reducible assumption) | assumption)
        obtain ⟨ad110, A110_0, c110_0, e110, hx110_0, hx110_1, hl110_0, hi110_0⟩ := at_T89 HR0_1.out x7_1 p110 q110
        cases e110
        replace hx110_0 := (HB.out.cell (World.block_lt_of_cell? w _ hx110_0)).trans hx110_0
        replace hx110_1 := (HB.out.cell (World.block_lt_of_cell? w _ hx110_1)).trans hx110_1
        have HR110_0 := Aside0.mk hi110_0
        have HC110_0 := Aside0.mk hl110_0
        clear hi110_0 hl110_0
        replace p110 := eq_true p110
        replace q110 := eq_true q110
        try go_wp2
        have n0_ := Aside0.mk (Kd.S_drew HO_110001.out)
        have n1_ := Aside0.mk (blk_drew BK101.out)
        have n2_ := Aside0.mk (blk_drew BK102.out)
        have n3_ := Aside0.mk (blk_drew BK109.out)
        have n4_ := Aside0.mk (below_drew1 HB.out)
        clear HO_110001
        clear BK101
        clear BK102
        clear BK109
        clear HB
        have HO_110001 := n0_
        have BK101 := n1_
        have BK102 := n2_
        have BK109 := n3_
        have HB := n4_
        clear n0_ n1_ n2_ n3_ n4_
        have p119 : 0 ≤ (x7_1 : Int) := of_decide_eq_true (by first | (with_reducible assumption) | assumption)
        have q119 : x7_1 < (l0_1.length : Int) := of_decide_eq_true (by first | (with_reducible assumption) | assumption)
        obtain ⟨ad119, A119_0, c119_0, e119, hx119_0, hx119_1, hl119_0, hi119_0⟩ := at_T89 HR0_1.out x7_1 p119 q119
        have hw119_1 := hx119_1
        have hw119_0 := hx119_0
        obtain rfl : ad110 = ad119 := (by injection e119)
        replace hx119_0 := (HB.out.cell (World.block_lt_of_cell? w _ hx119_0)).trans hx119_0
        replace hx119_1 := (HB.out.cell (World.block_lt_of_cell? w _ hx119_1)).trans hx119_1
        have HR119_0 := Aside0.mk hi119_0
        have HC119_0 := Aside0.mk hl119_0
        clear hi119_0 hl119_0
        replace p119 := eq_true p119
        replace q119 := eq_true q119
        obtain ⟨Ao42, co42, eo42⟩ := Kd.S_slice HO_110001.out
        (first | subst eo42 | (injection eo42 with f1_ f2_ f3_; have f4_ := f1_.symm; have f5_ := f3_.symm; clear f1_ f2_ f3_; subst f4_; subst f5_))
        refine start_ (n := 10) (S := fun w' => w'.cell? ⟨gb109, 0, none⟩ = some (.int .i64 x110000_1) ∧ w'.cell? ⟨gb109, 1, none⟩ = some (.slice Ao42 x110001_1.length co42) ∧ w'.cell? ⟨gb101, 0, none⟩ = some (.int .i64 a0_0) ∧ w'.cell? ⟨gb101, 1, none⟩ = some (.slice (some ad110) l0_1.length c0_1) ∧ w'.cell? (ad110.add ((x7_1).toNat * 2)) = some (.slice A119_0 ((rd_T89 l0_1 x7_1).f0).length c119_0) ∧ w'.cell? ⟨(ad110.add ((x7_1).toNat * 2)).block, (ad110.add ((x7_1).toNat * 2)).off + 1, none⟩ = some (.int .i64 ((rd_T89 l0_1 x7_1).f1))) (ds := [9]) #[false, false, false, false, false, false, false, false, false, false] (by kernel_rfl) rfl rfl ⟨(blk_cell BK109.out 0).trans rfl, (blk_cell BK109.out 1).trans rfl, (blk_cell BK101.out 0).trans rfl, (blk_cell BK101.out 1).trans rfl, ((HB.out.cell (World.block_lt_of_cell? w _ hw119_0)).trans hw119_0), ((HB.out.cell (World.block_lt_of_cell? w _ hw119_1)).trans hw119_1)⟩ (fun hHeld => ?_); refine with_tabW spec_RotateSum.tab12 spec_RotateSum.bits12 (fun HT_ HW_ => ?_)
        generalize wr.drew = w41 at HO_110001 BK101 BK102 BK109 HB HR119_0 hx119_0 hx119_1 hHeld ⊢
        refine pure_ (i := 1) (N := some 45) (v := ?_) (a' := ?_) #[false, true, false, false, false, false, false, false, false, false] rfl rfl (any_of HT_.out (by kernel_rfl)) (fun _ _ _ h => h) (Or.inl ⟨by rfl, ?_⟩) ?_ ?_
        rotate_left
        ·intro w'
         go_simp
         with_reducible rfl
        rotate_left
        ·simp only [Act.put, sA, sZ, sS, i64_w, i32_w]
         rfl
        refine pure_ (i := 2) (N := some 46) (v := ?_) (a' := ?_) #[false, true, true, false, false, false, false, false, false, false] rfl rfl (any_of HT_.out (by kernel_rfl)) (fun _ _ _ h => h) (Or.inl ⟨by rfl, ?_⟩) ?_ ?_
        rotate_left
        ·intro w'
         go_simp
         with_reducible rfl
        rotate_left
        ·simp only [Act.put, sA, sZ, sS, i64_w, i32_w]
         rfl
        refine pure_ (i := 4) (N := some 48) (v := ?_) (a' := ?_) #[false, true, true, false, true, false, false, false, false, false] rfl rfl (any_of HT_.out (by kernel_rfl)) (fun _ _ _ h => h) (Or.inl ⟨by rfl, ?_⟩) ?_ ?_
        rotate_left
        ·intro w'
         go_simp
         with_reducible rfl
        rotate_left
        ·simp only [Act.put, sA, sZ, sS, i64_w, i32_w]
         rfl
        refine take_ (i := 0) (N := some 44) (v := ?_) (a' := ?_) #[true, true, true, false, true, false, false, false, false, false] rfl rfl (take_ofW HT_.out HW_.out (by kernel_rfl)) (fun _ _ _ h => h) (Or.inl ⟨by rfl, ?_⟩) hHeld ?_ ?_
        rotate_left
        ·rintro w' ⟨s0, s1, s2, s3, s4, s5⟩
         go_simp
         with_reducible rfl
        rotate_left
        ·simp only [Act.put, sA, sZ, sS, i64_w, i32_w]
         rfl
        refine take_ (i := 3) (N := some 47) (v := ?_) (a' := ?_) #[true, true, true, true, true, false, false, false, false, false] rfl rfl (take_ofW HT_.out HW_.out (by kernel_rfl)) (fun _ _ _ h => h) (Or.inl ⟨by rfl, ?_⟩) hHeld ?_ ?_
        rotate_left
        ·rintro w' ⟨s0, s1, s2, s3, s4, s5⟩
         go_simp
         with_reducible rfl
        rotate_left
        ·simp only [Act.put, sA, sZ, sS, i64_w, i32_w]
         rfl
        refine pure_ (i := 5) (N := some 49) (v := ?_) (a' := ?_) #[true, true, true, true, true, true, false, false, false, false] rfl rfl (any_of HT_.out (by kernel_rfl)) (fun _ _ _ h => h) (Or.inl ⟨by rfl, ?_⟩) ?_ ?_
        rotate_left
        ·intro w'
         go_simp
         with_reducible rfl
        rotate_left
        ·simp only [Act.put, sA, sZ, sS, i64_w, i32_w]
         rfl
        refine pure_ (i := 6) (N := some 50) (v := ?_) (a' := ?_) #[true, true, true, true, true, true, true, false, false, false] rfl rfl (any_of HT_.out (by kernel_rfl)) (fun _ _ _ h => h) (Or.inl ⟨by rfl, ?_⟩) ?_ ?_
        rotate_left
        ·intro w'
         go_simp
         with_reducible rfl
        rotate_left
        ·simp only [Act.put, sA, sZ, sS, i64_w, i32_w]
         rfl
        refine take_ (i := 7) (N := some 51) (v := ?_) (a' := ?_) #[true, true, true, true, true, true, true, true, false, false] rfl rfl (take_ofW HT_.out HW_.out (by kernel_rfl)) (fun _ _ _ h => h) (Or.inl ⟨by rfl, ?_⟩) hHeld ?_ ?_
        rotate_left
        ·rintro w' ⟨s0, s1, s2, s3, s4, s5⟩
         go_simp
         with_reducible rfl
        rotate_left
        ·simp only [Act.put, sA, sZ, sS, i64_w, i32_w]
         rfl
        refine one_ (i := 8) (N := some 52) #[true, true, true, true, true, true, true, true, true, false] rfl rfl (one_of HT_.out (by kernel_rfl)) (by decide) (fun K hK => ?_)
        refine goes_ Try.func86 (by kernel_rfl) rfl #[.agg #[.int .i64 x110000_1, .slice Ao42 x110001_1.length co42], .slice A110_0 ((rd_T89 l0_1 x7_1).f0).length c110_0, .int .i64 ((rd_T89 l0_1 x7_1).f1)] (by rfl) rfl rfl (by (try simp only [List.map_toArray, List.map_cons, List.map_nil]); first | done | rfl | (simp only [List.length_drop, List.length_take]; rfl)) ?_
        with_reducible refine (spec_l03Put.calls k1 x110000_1 _ _ x110001_1 _ _ ((rd_T89 l0_1 x7_1).f0) ((rd_T89 l0_1 x7_1).f1) t120 t121 _ ?side1 ?side2 ?side3 ?side4 A37.out).mono ?_
        (case side1 => repeat (first | exact (Kd.S_reads' HO_110001.out).2.2 | (with_reducible refine Kd.C_alloc ?_ _) | (with_reducible refine Kd.C_drewN ?_ _) | (with_reducible refine Kd.C_drew ?_)))
        (case side2 => exact (Kd.S_reads' HO_110001.out).2.1)
        (case side3 => repeat (first | exact (Kd.C_below HR110_0.out HB.out) | (with_reducible refine Kd.C_alloc ?_ _) | (with_reducible refine Kd.C_drewN ?_ _) | (with_reducible refine Kd.C_drew ?_)))
        (case side4 => exact HC110_0.out)
        rintro e w43 ⟨v122, rfl, ho0, hb⟩
        refine ⟨_, rfl, ?_⟩
        have n0_ := Aside0.mk (Kd.S_elder' (by (with_reducible repeat (first | apply Kd.S_alloc | apply Kd.S_drewN | apply Kd.S_drew)); exact HO_110001.out) (Kd.S_base ho0) hb)
        have n1_ := Aside0.mk (Kd.S_lower (Kd.S_new' ho0 (Kd.S_lt (by (with_reducible repeat (first | apply Kd.S_alloc | apply Kd.S_drewN | apply Kd.S_drew)); exact HO_110001.out))) (below_size (by repeat (first | (with_reducible first | exact HB.out | apply below_alloc | apply pw_below_drewN | apply below_drew1 | refine below_set ?_ GE101.out | refine below_set ?_ GE102.out | refine below_set ?_ GE109.out) | exact HB.out))))
        have n2_ := Aside0.mk (blk_below (g := gb101) (o := .cells #[.int .i64 a0_0, .slice (some ad110) l0_1.length c0_1] 49 (0, 0)) (by (with_reducible repeat (first | refine blk_drewN ?_ _ | refine blk_drew ?_ | refine blk_alloc ?_ _)); exact BK101.out) hb)
        have n3_ := Aside0.mk (blk_below (g := gb102) (o := .cells #[.int .i64 0, .slice none 0 0] 49 (0, 0)) (by (with_reducible repeat (first | refine blk_drewN ?_ _ | refine blk_drew ?_ | refine blk_alloc ?_ _)); exact BK102.out) hb)
        have n4_ := Aside0.mk (blk_below (g := gb109) (o := .cells #[.int .i64 x110000_1, .slice Ao42 x110001_1.length co42] 49 (0, 0)) (by (with_reducible repeat (first | refine blk_drewN ?_ _ | refine blk_drew ?_ | refine blk_alloc ?_ _)); exact BK109.out) hb)
        have n5_ := Aside0.mk (below_step (by repeat (first | (with_reducible first | exact HB.out | apply below_alloc | apply pw_below_drewN | apply below_drew1 | refine below_set ?_ GE101.out | refine below_set ?_ GE102.out | refine below_set ?_ GE109.out) | exact HB.out)) hb)
        clear HO_110001
        clear BK101
        clear BK102
        clear BK109
        clear HB
        have HO_110001 := n0_
        have HO123 := n1_
        have BK101 := n2_
        have BK102 := n3_
        have BK109 := n4_
        have HB := n5_
        clear n0_ n1_ n2_ n3_ n4_ n5_
        (try clear hb)
        (try clear hb2)
        (try clear hk)
        (try clear hi)
        (try clear ho0)
        obtain ⟨Ao45, co45, eo45⟩ := Kd.S_slice HO123.out
        (first | subst eo45 | (injection eo45 with f1_ f2_ f3_; have f4_ := f1_.symm; have f5_ := f3_.symm; clear f1_ f2_ f3_; subst f4_; subst f5_))
        refine hK.out _ _ ⟨(blk_cell BK109.out 0).trans rfl, (blk_cell BK109.out 1).trans rfl, (blk_cell BK101.out 0).trans rfl, (blk_cell BK101.out 1).trans rfl, ((HB.out.cell (World.block_lt_of_cell? w _ hw119_0)).trans hw119_0), ((HB.out.cell (World.block_lt_of_cell? w _ hw119_1)).trans hw119_1)⟩ (fun hHeld => ?_)
        clear hK K
        refine norm_ (a' := ?_) ?_ ?_
        rotate_left
        ·show Act.put _ (some 52) _ = _
         simp only [Act.put, sA, sZ, sS, i64_w, i32_w]
         rfl
        refine last_ (i := 9) (N := none) #[true, true, true, true, true, true, true, true, true, true] rfl rfl (one_of HT_.out (by kernel_rfl)) (by decide) (fun K hK => ?_)
        have hs44 : w43.cell? ⟨gb109, 0, none⟩ = some (.int .i64 x110000_1) := (blk_cell BK109.out 0).trans rfl
        have hfs44 := blk_frozen BK109.out 0
        have hns44_0 := NB101_109.out
        have hns44_1 := NB102_109.out
        have hms44_0 := NB109_101.out
        have hms44_1 := NB109_102.out
        have hs46 : w43.cell? ⟨gb109, 1, none⟩ = some (.slice Ao42 x110001_1.length co42) := (blk_cell BK109.out 1).trans rfl
        have hfs46 := blk_frozen BK109.out 1
        have hns46_0 := NB101_109.out
        have hns46_1 := NB102_109.out
        have hms46_0 := NB109_101.out
        have hms46_1 := NB109_102.out
        refine skip_ (w1 := ?_) (by rfl) rfl ?_ ?_
        rotate_left
        ·go_simp
         rfl
        refine hK.out _ _ ?_
        clear hK K
        refine done_ (done_of HT_.out (by kernel_rfl)) ?_
        try go_wp2
        go_roundg k1
        case measure => have := HK1.out; omega
        case rel => exact ⟨(wrap64 (x7_1 + 1)), (t120), (t121), (.slice Ao45 t121.length co45), (by first | rfl | (simp; done) | (simp [*]; done)), H', ⟨by have := HK1.out; omega⟩, ⟨by (with_reducible repeat (first | apply Kd.S_alloc | apply Kd.S_drewN | apply Kd.S_drew)); exact Kd.S_mono (Kd.S_far (p := ⟨gb109, 1, none⟩) (Kd.S_far (p := ⟨gb109, 0, none⟩) (Kd.S_types HO123.out BK109.out (by decide)) (fun _ hk => hk.2) (.int .i64 t120)) (fun _ hk => hk.2) (.slice Ao45 t121.length co45)) (fun _ hk => trivial)⟩, ⟨by (with_reducible repeat (first | refine blk_drewN ?_ _ | refine blk_drew ?_ | refine blk_alloc ?_ _)); refine blk_far ?_ NB101_109.out _; (with_reducible repeat (first | refine blk_drewN ?_ _ | refine blk_drew ?_ | refine blk_alloc ?_ _)); refine blk_far ?_ NB101_109.out _; (with_reducible repeat (first | refine blk_drewN ?_ _ | refine blk_drew ?_ | refine blk_alloc ?_ _)); exact BK101.out⟩, ⟨by (with_reducible repeat (first | refine blk_drewN ?_ _ | refine blk_drew ?_ | refine blk_alloc ?_ _)); refine blk_far ?_ NB102_109.out _; (with_reducible repeat (first | refine blk_drewN ?_ _ | refine blk_drew ?_ | refine blk_alloc ?_ _)); refine blk_far ?_ NB102_109.out _; (with_reducible repeat (first | refine blk_drewN ?_ _ | refine blk_drew ?_ | refine blk_alloc ?_ _)); exact BK102.out⟩, ⟨by (with_reducible repeat (first | refine blk_drewN ?_ _ | refine blk_drew ?_ | refine blk_alloc ?_ _)); refine blk_put (cs := #[.int .i64 t120, .slice Ao42 x110001_1.length co42]) ?_ 1 _ rfl; (with_reducible repeat (first | refine blk_drewN ?_ _ | refine blk_drew ?_ | refine blk_alloc ?_ _)); refine blk_put (cs := #[.int .i64 x110000_1, .slice Ao42 x110001_1.length co42]) ?_ 0 _ rfl; (with_reducible repeat (first | refine blk_drewN ?_ _ | refine blk_drew ?_ | refine blk_alloc ?_ _)); exact BK109.out⟩, ⟨by repeat (first | (with_reducible first | exact HB.out | apply below_alloc | apply pw_below_drewN | apply below_drew1 | refine below_set ?_ GE101.out | refine below_set ?_ GE102.out | refine below_set ?_ GE109.out) | exact HB.out)⟩⟩
      ·rw [if_neg c21] at H
       exact absurd H (by simp)
     ·rw [if_neg c20] at H
      have c20b0 : decide (x7_1 < (l0_1.length : Int)) = false := decide_eq_false c20
      clear c20
      simp only [Option.some.injEq, Prod.mk.injEq] at H
      obtain ⟨rfl, rfl, rfl⟩ := H
      have hnb47 := NB101_102.out
      have hnc47 := NB102_101.out
      have hnb48 := NB101_109.out
      have hnc48 := NB109_101.out
      have hcz49_0 : wr.cell? ⟨gb101, 0, none⟩ = some (.int .i64 a0_0) := (blk_cell BK101.out 0).trans rfl
      have hcz49_1 : wr.cell? ⟨gb101, 1, none⟩ = some (.slice A0_1 l0_1.length c0_1) := (blk_cell BK101.out 1).trans rfl
      have hfz49_0 := blk_frozen BK101.out 0
      have hfz49_1 := blk_frozen BK101.out 1
      have hnb50 := NB109_102.out
      have hnc50 := NB102_109.out
      have hcz51_0 : wr.cell? ⟨gb109, 0, none⟩ = some (.int .i64 x110000_1) := (blk_cell BK109.out 0).trans rfl
      have hcz51_1 : wr.cell? ⟨gb109, 1, none⟩ = some (u110001) := (blk_cell BK109.out 1).trans rfl
      have hfz51_0 := blk_frozen BK109.out 0
      have hfz51_1 := blk_frozen BK109.out 1
      have hcz52_0 : wr.cell? ⟨gb102, 0, none⟩ = some (.int .i64 0) := (blk_cell BK102.out 0).trans rfl
      have hcz52_1 : wr.cell? ⟨gb102, 1, none⟩ = some (.slice none 0 0) := (blk_cell BK102.out 1).trans rfl
      have hfz52_0 := blk_frozen BK102.out 0
      have hfz52_1 := blk_frozen BK102.out 1
      obtain ⟨Ao53, co53, eo53⟩ := Kd.S_slice HO_110001.out
      subst eo53
      go_wp2
      refine bodyPost_ret (results_ct rfl _ _ gb102 49 #[.int .i64 x110000_1, .slice Ao53 x110001_1.length co53] (0, 0) _ rfl (by (with_reducible repeat (first | refine blk_drewN ?_ _ | refine blk_drew ?_ | refine blk_alloc ?_ _)); refine blk_put (cs := #[.int .i64 x110000_1, .slice none 0 0]) ?_ 1 _ rfl; (with_reducible repeat (first | refine blk_drewN ?_ _ | refine blk_drew ?_ | refine blk_alloc ?_ _)); refine blk_put (cs := #[.int .i64 0, .slice none 0 0]) ?_ 0 _ rfl; (with_reducible repeat (first | refine blk_drewN ?_ _ | refine blk_drew ?_ | refine blk_alloc ?_ _)); exact BK102.out) Try.underlying49 rfl (by kernel_rfl)) rfl ?_
      exact ⟨_, by first | rfl | (simp [errW_none, errW_some] <;> rfl) | (simp [*, errW_none, errW_some] <;> rfl), by (with_reducible repeat (first | apply Kd.S_alloc | apply Kd.S_drewN | apply Kd.S_drew)); exact Kd.S_mono (Kd.S_far (p := ⟨gb102, 1, none⟩) (Kd.S_far (p := ⟨gb102, 0, none⟩) (Kd.S_types HO_110001.out BK102.out (by decide)) (fun _ hk => hk.2) (.int .i64 x110000_1)) (fun _ hk => hk.2) (.slice Ao53 x110001_1.length co53)) (fun _ hk => trivial), by repeat (first | (with_reducible first | exact HB.out | apply below_alloc | apply pw_below_drewN | apply below_drew1 | refine below_set ?_ GE101.out | refine below_set ?_ GE102.out | refine below_set ?_ GE109.out) | exact HB.out)⟩
  ·replace c6 := Bool.eq_false_iff.mpr c6
   subst c6
   have H1 : (some (0, ([] : List (S89)), 2)) = some (r1, r2, r3) := by rw [if_neg (show ¬ (false = true) by decide)] at H; exact H
   clear H
   have H := H1
   clear H1
   simp only [Option.some.injEq, Prod.mk.injEq] at H
   obtain ⟨rfl, rfl, rfl⟩ := H
   go_enter Try.func50, Try.ntmps50
   go_wp2_with (first | ((with_reducible refine gate_dst (N := 2) rfl ?_); refine box_event ?hg (N := 2) ?hd (cs := #[.int .i64 a0_0, .slice A0_1 l0_1.length c0_1]) (t := 49) ?hr ?_; (case hd => rfl); (case hg => rfl); (case hr => first | (go_simp; done) | (go_simp; rfl)); intro gb101 hg w54 hbox hb; have n0_ := Aside0.mk (below_step (by repeat (first | (with_reducible first | exact HB.out | apply below_alloc | apply pw_below_drewN | apply below_drew1) | exact HB.out)) hb); have n1_ := Aside0.mk (hbox); have n2_ := Aside0.mk ((by rw [hg]; exact (below_size (by repeat (first | (with_reducible first | exact HB.out | apply below_alloc | apply pw_below_drewN | apply below_drew1) | exact HB.out))) : w.heap.size ≤ gb101)); have n3_ := Aside0.mk ((by rw [hg]; exact (below_size (by repeat (first | (with_reducible first | exact HB.out | apply below_alloc | apply pw_below_drewN | apply below_drew1) | exact HB.out))) : w.heap.size ≤ gb101)); clear HB; have HB := n0_; have BK101 := n1_; have GW101 := n2_; have GE101 := n3_; clear n0_ n1_ n2_ n3_; clear hb hbox hg) | ((with_reducible refine gate_dst (N := 4) rfl ?_); refine box_event ?hg (N := 4) ?hd (cs := #[.int .i64 0, .slice none 0 0]) (t := 49) ?hr ?_; (case hd => rfl); (case hg => rfl); (case hr => first | (go_simp; done) | (go_simp; rfl)); intro gb102 hg w55 hbox hb; have n0_ := Aside0.mk (blk_below (g := gb101) (o := .cells #[.int .i64 a0_0, .slice A0_1 l0_1.length c0_1] 49 (0, 0)) (by (with_reducible repeat (first | refine blk_drewN ?_ _ | refine blk_drew ?_ | refine blk_alloc ?_ _)); exact BK101.out) hb); have n1_ := Aside0.mk (below_step (by repeat (first | (with_reducible first | exact HB.out | apply below_alloc | apply pw_below_drewN | apply below_drew1 | refine below_set ?_ GE101.out) | exact HB.out)) hb); have n2_ := Aside0.mk (hbox); have n3_ := Aside0.mk ((by rw [hg]; exact (below_size (by repeat (first | (with_reducible first | exact HB.out | apply below_alloc | apply pw_below_drewN | apply below_drew1 | refine below_set ?_ GE101.out) | exact HB.out))) : w.heap.size ≤ gb102)); have n4_ := Aside0.mk ((by rw [hg]; exact (below_size (by repeat (first | (with_reducible first | exact HB.out | apply below_alloc | apply pw_below_drewN | apply below_drew1 | refine below_set ?_ GE101.out) | exact HB.out))) : w.heap.size ≤ gb102)); have n5_ := Aside0.mk ((by rw [hg]; exact Nat.ne_of_lt (blk_lt (g := gb101) (o := .cells #[.int .i64 a0_0, .slice A0_1 l0_1.length c0_1] 49 (0, 0)) (by (with_reducible repeat (first | refine blk_drewN ?_ _ | refine blk_drew ?_ | refine blk_alloc ?_ _)); exact BK101.out)) : gb101 ≠ gb102)); have n6_ := Aside0.mk ((by rw [hg]; exact Nat.ne_of_gt (blk_lt (g := gb101) (o := .cells #[.int .i64 a0_0, .slice A0_1 l0_1.length c0_1] 49 (0, 0)) (by (with_reducible repeat (first | refine blk_drewN ?_ _ | refine blk_drew ?_ | refine blk_alloc ?_ _)); exact BK101.out)) : gb102 ≠ gb101)); clear BK101; clear HB; have BK101 := n0_; have HB := n1_; have BK102 := n2_; have GW102 := n3_; have GE102 := n4_; have NB101_102 := n5_; have NB102_101 := n6_; clear n0_ n1_ n2_ n3_ n4_ n5_ n6_; clear hb hbox hg; have hnb56 := NB101_102.out; have hnc56 := NB102_101.out; have hcz57_0 : w55.cell? ⟨gb101, 0, none⟩ = some (.int .i64 a0_0) := (blk_cell BK101.out 0).trans rfl; have hcz57_1 : w55.cell? ⟨gb101, 1, none⟩ = some (.slice A0_1 l0_1.length c0_1) := (blk_cell BK101.out 1).trans rfl; have hfz57_0 := blk_frozen BK101.out 0; have hfz57_1 := blk_frozen BK101.out 1) | ((with_reducible refine gate_callee (f := 77) rfl ?_); refine goesL_ (some 11) rfl rfl Try.func77 (by kernel_rfl) rfl #[.agg #[.int .i64 a0_0, .slice A0_1 l0_1.length c0_1]] rfl (by (try simp only [List.map_toArray, List.map_cons, List.map_nil]); first | done | rfl | (simp only [List.length_drop, List.length_take]; rfl)) ?_; (with_reducible refine (spec_l03Is.calls k a0_0 _ _ l0_1 true _ ?side1 ?side2 A3.out).mono ?_); (case side1 => repeat (first | exact (Kd.C_below HR0_1.out HB.out) | (with_reducible refine Kd.C_alloc ?_ _) | (with_reducible refine Kd.C_drewN ?_ _) | (with_reducible refine Kd.C_drew ?_))); (case side2 => exact HC0_1.out); rintro e w58 ⟨rfl, hb⟩; refine ⟨_, rfl, ?_⟩; have n0_ := Aside0.mk (blk_below (g := gb101) (o := .cells #[.int .i64 a0_0, .slice A0_1 l0_1.length c0_1] 49 (0, 0)) (by (with_reducible repeat (first | refine blk_drewN ?_ _ | refine blk_drew ?_ | refine blk_alloc ?_ _)); exact BK101.out) hb); have n1_ := Aside0.mk (blk_below (g := gb102) (o := .cells #[.int .i64 0, .slice none 0 0] 49 (0, 0)) (by (with_reducible repeat (first | refine blk_drewN ?_ _ | refine blk_drew ?_ | refine blk_alloc ?_ _)); exact BK102.out) hb); have n2_ := Aside0.mk (below_step (by repeat (first | (with_reducible first | exact HB.out | apply below_alloc | apply pw_below_drewN | apply below_drew1 | refine below_set ?_ GE101.out | refine below_set ?_ GE102.out) | exact HB.out)) hb); clear BK101; clear BK102; clear HB; have BK101 := n0_; have BK102 := n1_; have HB := n2_; clear n0_ n1_ n2_; (try clear hb); (try clear hb2); (try clear hk); (try clear hi)) | ((with_reducible refine gate_callee (f := 59) rfl ?_); refine goesL_ (some 16) rfl rfl Try.func59 (by kernel_rfl) rfl #[.int .i64 a1, .int .i64 0, .int .i64 1000] rfl (by (try simp only [List.map_toArray, List.map_cons, List.map_nil]); first | done | rfl | (simp only [List.length_drop, List.length_take]; rfl)) ?_; (with_reducible refine (spec_l01In.calls a1 0 1000 false _ A5.out).mono ?_); rintro e w' ⟨rfl, ⟨nd, rfl⟩⟩; refine ⟨_, rfl, ?_⟩; (try (rw [drewN_self w58]; generalize hq_ : World.drewN w58 _ = w58; have n0_ : Aside0 (w58.heap[gb101]? = some (.cells #[.int .i64 a0_0, .slice A0_1 l0_1.length c0_1] 49 (0, 0))) := ⟨by rw [← hq_]; exact (by (with_reducible repeat (first | refine blk_drewN ?_ _ | refine blk_drew ?_ | refine blk_alloc ?_ _)); exact BK101.out)⟩; have n1_ : Aside0 (w58.heap[gb102]? = some (.cells #[.int .i64 0, .slice none 0 0] 49 (0, 0))) := ⟨by rw [← hq_]; exact (by (with_reducible repeat (first | refine blk_drewN ?_ _ | refine blk_drew ?_ | refine blk_alloc ?_ _)); exact BK102.out)⟩; have n2_ : Aside0 (Below w.heap.size w w58) := ⟨by rw [← hq_]; exact (by repeat (first | (with_reducible first | exact HB.out | apply below_alloc | apply pw_below_drewN | apply below_drew1 | refine below_set ?_ GE101.out | refine below_set ?_ GE102.out) | exact HB.out))⟩; clear BK101 BK102 HB hq_; have BK101 := n0_; have BK102 := n1_; have HB := n2_; clear n0_ n1_ n2_)); have hcz59_0 : w58.cell? ⟨gb102, 0, none⟩ = some (.int .i64 0) := (blk_cell BK102.out 0).trans rfl; have hcz59_1 : w58.cell? ⟨gb102, 1, none⟩ = some (.slice none 0 0) := (blk_cell BK102.out 1).trans rfl; have hfz59_0 := blk_frozen BK102.out 0; have hfz59_1 := blk_frozen BK102.out 1))
   refine bodyPost_ret (results_ct rfl _ _ gb102 49 #[.int .i64 0, .slice none 0 0] (0, 0) _ rfl (by (with_reducible repeat (first | refine blk_drewN ?_ _ | refine blk_drew ?_ | refine blk_alloc ?_ _)); refine blk_put (cs := #[.int .i64 0, .slice none 0 0]) ?_ 1 _ rfl; (with_reducible repeat (first | refine blk_drewN ?_ _ | refine blk_drew ?_ | refine blk_alloc ?_ _)); refine blk_put (cs := #[.int .i64 0, .slice none 0 0]) ?_ 0 _ rfl; (with_reducible repeat (first | refine blk_drewN ?_ _ | refine blk_drew ?_ | refine blk_alloc ?_ _)); exact BK102.out) Try.underlying49 rfl (by kernel_rfl)) rfl ?_
   exact ⟨_, by first | rfl | (simp [errW_none, errW_some] <;> rfl) | (simp [*, errW_none, errW_some] <;> rfl), by first | exact Kd.S_nil _ _ _ _ _ | exact Kd.N_nil _ _ _ _ _ | exact Kd.V_nil _ _ _ _ _ | exact Kd.Q_nil _ _ _ _ _ | exact Kd.R_nil _ _ _ _ _, by repeat (first | (with_reducible first | exact HB.out | apply below_alloc | apply pw_below_drewN | apply below_drew1 | refine below_set ?_ GE101.out | refine below_set ?_ GE102.out) | exact HB.out)⟩
 ·replace c4 := Bool.eq_false_iff.mpr c4
  subst c4
  have H1 : (some (0, ([] : List (S89)), 1)) = some (r1, r2, r3) := by rw [if_neg (show ¬ (false = true) by decide)] at H; exact H
  clear H
  have H := H1
  clear H1
  simp only [Option.some.injEq, Prod.mk.injEq] at H
  obtain ⟨rfl, rfl, rfl⟩ := H
  go_enter Try.func50, Try.ntmps50
  go_wp2_with (first | ((with_reducible refine gate_dst (N := 2) rfl ?_); refine box_event ?hg (N := 2) ?hd (cs := #[.int .i64 a0_0, .slice A0_1 l0_1.length c0_1]) (t := 49) ?hr ?_; (case hd => rfl); (case hg => rfl); (case hr => first | (go_simp; done) | (go_simp; rfl)); intro gb101 hg w60 hbox hb; have n0_ := Aside0.mk (below_step (by repeat (first | (with_reducible first | exact HB.out | apply below_alloc | apply pw_below_drewN | apply below_drew1) | exact HB.out)) hb); have n1_ := Aside0.mk (hbox); have n2_ := Aside0.mk ((by rw [hg]; exact (below_size (by repeat (first | (with_reducible first | exact HB.out | apply below_alloc | apply pw_below_drewN | apply below_drew1) | exact HB.out))) : w.heap.size ≤ gb101)); have n3_ := Aside0.mk ((by rw [hg]; exact (below_size (by repeat (first | (with_reducible first | exact HB.out | apply below_alloc | apply pw_below_drewN | apply below_drew1) | exact HB.out))) : w.heap.size ≤ gb101)); clear HB; have HB := n0_; have BK101 := n1_; have GW101 := n2_; have GE101 := n3_; clear n0_ n1_ n2_ n3_; clear hb hbox hg) | ((with_reducible refine gate_dst (N := 4) rfl ?_); refine box_event ?hg (N := 4) ?hd (cs := #[.int .i64 0, .slice none 0 0]) (t := 49) ?hr ?_; (case hd => rfl); (case hg => rfl); (case hr => first | (go_simp; done) | (go_simp; rfl)); intro gb102 hg w61 hbox hb; have n0_ := Aside0.mk (blk_below (g := gb101) (o := .cells #[.int .i64 a0_0, .slice A0_1 l0_1.length c0_1] 49 (0, 0)) (by (with_reducible repeat (first | refine blk_drewN ?_ _ | refine blk_drew ?_ | refine blk_alloc ?_ _)); exact BK101.out) hb); have n1_ := Aside0.mk (below_step (by repeat (first | (with_reducible first | exact HB.out | apply below_alloc | apply pw_below_drewN | apply below_drew1 | refine below_set ?_ GE101.out) | exact HB.out)) hb); have n2_ := Aside0.mk (hbox); have n3_ := Aside0.mk ((by rw [hg]; exact (below_size (by repeat (first | (with_reducible first | exact HB.out | apply below_alloc | apply pw_below_drewN | apply below_drew1 | refine below_set ?_ GE101.out) | exact HB.out))) : w.heap.size ≤ gb102)); have n4_ := Aside0.mk ((by rw [hg]; exact (below_size (by repeat (first | (with_reducible first | exact HB.out | apply below_alloc | apply pw_below_drewN | apply below_drew1 | refine below_set ?_ GE101.out) | exact HB.out))) : w.heap.size ≤ gb102)); have n5_ := Aside0.mk ((by rw [hg]; exact Nat.ne_of_lt (blk_lt (g := gb101) (o := .cells #[.int .i64 a0_0, .slice A0_1 l0_1.length c0_1] 49 (0, 0)) (by (with_reducible repeat (first | refine blk_drewN ?_ _ | refine blk_drew ?_ | refine blk_alloc ?_ _)); exact BK101.out)) : gb101 ≠ gb102)); have n6_ := Aside0.mk ((by rw [hg]; exact Nat.ne_of_gt (blk_lt (g := gb101) (o := .cells #[.int .i64 a0_0, .slice A0_1 l0_1.length c0_1] 49 (0, 0)) (by (with_reducible repeat (first | refine blk_drewN ?_ _ | refine blk_drew ?_ | refine blk_alloc ?_ _)); exact BK101.out)) : gb102 ≠ gb101)); clear BK101; clear HB; have BK101 := n0_; have HB := n1_; have BK102 := n2_; have GW102 := n3_; have GE102 := n4_; have NB101_102 := n5_; have NB102_101 := n6_; clear n0_ n1_ n2_ n3_ n4_ n5_ n6_; clear hb hbox hg; have hnb62 := NB101_102.out; have hnc62 := NB102_101.out; have hcz63_0 : w61.cell? ⟨gb101, 0, none⟩ = some (.int .i64 a0_0) := (blk_cell BK101.out 0).trans rfl; have hcz63_1 : w61.cell? ⟨gb101, 1, none⟩ = some (.slice A0_1 l0_1.length c0_1) := (blk_cell BK101.out 1).trans rfl; have hfz63_0 := blk_frozen BK101.out 0; have hfz63_1 := blk_frozen BK101.out 1) | ((with_reducible refine gate_callee (f := 77) rfl ?_); refine goesL_ (some 11) rfl rfl Try.func77 (by kernel_rfl) rfl #[.agg #[.int .i64 a0_0, .slice A0_1 l0_1.length c0_1]] rfl (by (try simp only [List.map_toArray, List.map_cons, List.map_nil]); first | done | rfl | (simp only [List.length_drop, List.length_take]; rfl)) ?_; (with_reducible refine (spec_l03Is.calls k a0_0 _ _ l0_1 false _ ?side1 ?side2 A3.out).mono ?_); (case side1 => repeat (first | exact (Kd.C_below HR0_1.out HB.out) | (with_reducible refine Kd.C_alloc ?_ _) | (with_reducible refine Kd.C_drewN ?_ _) | (with_reducible refine Kd.C_drew ?_))); (case side2 => exact HC0_1.out); rintro e w64 ⟨rfl, hb⟩; refine ⟨_, rfl, ?_⟩; have n0_ := Aside0.mk (blk_below (g := gb101) (o := .cells #[.int .i64 a0_0, .slice A0_1 l0_1.length c0_1] 49 (0, 0)) (by (with_reducible repeat (first | refine blk_drewN ?_ _ | refine blk_drew ?_ | refine blk_alloc ?_ _)); exact BK101.out) hb); have n1_ := Aside0.mk (blk_below (g := gb102) (o := .cells #[.int .i64 0, .slice none 0 0] 49 (0, 0)) (by (with_reducible repeat (first | refine blk_drewN ?_ _ | refine blk_drew ?_ | refine blk_alloc ?_ _)); exact BK102.out) hb); have n2_ := Aside0.mk (below_step (by repeat (first | (with_reducible first | exact HB.out | apply below_alloc | apply pw_below_drewN | apply below_drew1 | refine below_set ?_ GE101.out | refine below_set ?_ GE102.out) | exact HB.out)) hb); clear BK101; clear BK102; clear HB; have BK101 := n0_; have BK102 := n1_; have HB := n2_; clear n0_ n1_ n2_; (try clear hb); (try clear hb2); (try clear hk); (try clear hi); have hcz65_0 : w64.cell? ⟨gb102, 0, none⟩ = some (.int .i64 0) := (blk_cell BK102.out 0).trans rfl; have hcz65_1 : w64.cell? ⟨gb102, 1, none⟩ = some (.slice none 0 0) := (blk_cell BK102.out 1).trans rfl; have hfz65_0 := blk_frozen BK102.out 0; have hfz65_1 := blk_frozen BK102.out 1))
  refine bodyPost_ret (results_ct rfl _ _ gb102 49 #[.int .i64 0, .slice none 0 0] (0, 0) _ rfl (by (with_reducible repeat (first | refine blk_drewN ?_ _ | refine blk_drew ?_ | refine blk_alloc ?_ _)); refine blk_put (cs := #[.int .i64 0, .slice none 0 0]) ?_ 1 _ rfl; (with_reducible repeat (first | refine blk_drewN ?_ _ | refine blk_drew ?_ | refine blk_alloc ?_ _)); refine blk_put (cs := #[.int .i64 0, .slice none 0 0]) ?_ 0 _ rfl; (with_reducible repeat (first | refine blk_drewN ?_ _ | refine blk_drew ?_ | refine blk_alloc ?_ _)); exact BK102.out) Try.underlying49 rfl (by kernel_rfl)) rfl ?_
  exact ⟨_, by first | rfl | (simp [errW_none, errW_some] <;> rfl) | (simp [*, errW_none, errW_some] <;> rfl), by first | exact Kd.S_nil _ _ _ _ _ | exact Kd.N_nil _ _ _ _ _ | exact Kd.V_nil _ _ _ _ _ | exact Kd.Q_nil _ _ _ _ _ | exact Kd.R_nil _ _ _ _ _, by repeat (first | (with_reducible first | exact HB.out | apply below_alloc | apply pw_below_drewN | apply below_drew1 | refine below_set ?_ GE101.out | refine below_set ?_ GE102.out) | exact HB.out)⟩

/-! ### impl_RotateSum: function 51, by hand -/

/-- How far a word is rotated. -/
def rotK (kk : Int) (l : List Int) : Int := Int.tmod kk (max (l.length : Int) 1)
def rotT (kk : Int) (l : List Int) : List Int := normalL (l.drop (rotK kk l).toNat ++ l.take (rotK kk l).toNat)
set_option maxHeartbeats 4000000 in
set_option maxRecDepth 100000 in
theorem impl_RotateSum_1.calls (bk : Nat) (kk : Int) (A : Option Addr) (c : Nat) (l : List Int) (w : World) (hb : w.heap[bk]? = some (.cells #[.int .i64 kk] 2 (0, 0))) (hr : Kd.C (Kd.int .i64) w A l.length l) (hc : l.length ≤ c) (h : impl_rotated.f l (rotK kk l) = some (rotT kk l)) :
  Calls Try.prog 103 (#[.slice A l.length c] ++ #[.pointer (some ⟨bk, 0, none⟩)]) w fun e w' => ∃ v, e = .returned v ∧ Kd.R (Kd.int .i64) 2 w' w.heap.size (fun _ => True) v (rotT kk l) ∧ Below w.heap.size w w' := by
 have hq0 : w.cell? ⟨bk, 0, none⟩ = some (.int .i64 kk) := (blk_cell hb 0).trans rfl
 have HV := Aside0.mk (⟨A, c, rfl, hc, Kd.C_F (Kd.heap_int .i64) hr⟩ : Kd.V (Kd.int .i64) 2 w w.heap.size (fun k_ => k_ < w.heap.size) (.slice A l.length c) l)
 clear hr hc hb
 show Calls Try.prog 103 #[.slice A l.length c, .pointer (some ⟨bk, 0, none⟩)] w _
 by_cases hl : l.length = 0
 ·obtain rfl : l = [] := List.eq_nil_of_length_eq_zero hl
  have e0 : rotK kk [] = 0 := by show Int.tmod kk 1 = 0; exact Int.tmod_one kk
  have H := Aside0.mk (show impl_rotated.f [] 0 = some (rotT kk []) from by rw [← e0]; exact h)
  generalize rotT kk [] = R at H ⊢
  clear h e0 hl
  go_enter Try.func103, Try.ntmps103
  go_wp2_with fail
  refine (impl_rotated.calls (fun k_ => k_ < w.heap.size) _ _ [] 0 R w HV.out H.out).mono ?_
  rintro e w2 ⟨v2, rfl, hR2, hb2⟩
  have HR2 := Aside0.mk hR2
  have HB2 := Aside0.mk hb2
  clear hR2 hb2
  go_wp2
  go_ret
  exact ⟨_, rfl, Kd.R_mono HR2.out (fun _ _ => trivial), HB2.out⟩
 ·have e0 : rotK kk l = Int.tmod kk l.length := by
   unfold rotK
   rw [show max (l.length : Int) 1 = l.length by omega]
  have H := Aside0.mk (show impl_rotated.f l (Int.tmod kk l.length) = some (rotT kk l) from by rw [← e0]; exact h)
  generalize rotT kk l = R at H ⊢
  have hl1 : (1 : Int) ≤ (l.length : Int) := by omega
  have hl2 : ¬ ((l.length : Int) < 1) := by omega
  have hl3 : ¬ ((l.length : Int) = 0) := by omega
  have hl4 : 1 ≤ l.length := by omega
  have hm1 : mx (l.length : Int) 1 = (l.length : Int) := by unfold mx; rw [if_neg hl2]
  clear h e0
  go_enter Try.func103, Try.ntmps103
  go_wp2_with fail
  refine (impl_rotated.calls (fun k_ => k_ < w.heap.size) _ _ l (Int.tmod kk l.length) R w HV.out H.out).mono ?_
  rintro e w2 ⟨v2, rfl, hR2, hb2⟩
  have HR2 := Aside0.mk hR2
  have HB2 := Aside0.mk hb2
  clear hR2 hb2
  go_wp2
  go_ret
  exact ⟨_, rfl, Kd.R_mono HR2.out (fun _ _ => trivial), HB2.out⟩
open Classical in
/-- What the program's RotateSum answers. -/
noncomputable def impl_RotateSum.f (k : Nat) (p : Int) (xs : List S89) (kk : Int) : Option (Int × List S89 × Int) := (impl_IsSum.f k p xs).bind fun b => if b = true then ((impl_in.f kk 0 1000).bind fun t => if t = true then (if (0 < p ∧ p ≤ 1000) ∧ xs.length ≤ 1000 ∧ (∀ x ∈ xs, okW (rotT kk x.f0) ∧ (-1000000 ≤ x.f1 ∧ x.f1 ≤ 1000000)) ∧ (∀ x ∈ xs, impl_rotated.f x.f0 (rotK kk x.f0) = some (rotT kk x.f0)) then some (limR p (nzT (chgZ p (fun l => oneT p (rotT kk l)) [] xs))) else none) else some (0, [], 2)) else some (0, [], 1)
set_option maxHeartbeats 4000000 in
set_option maxRecDepth 100000 in
theorem impl_RotateSum.calls (k : Nat) (p : Int) (A : Option Addr) (c : Nat) (xs : List S89) (kk : Int) (r1 : Int) (r2 : List S89) (r3 : Int) (w : World) (hr : Kd.C k89 w A xs.length xs) (hc : xs.length ≤ c) (h : impl_RotateSum.f k p xs kk = some (r1, r2, r3)) :
  Calls Try.prog 51 #[.agg #[.int .i64 p, .slice A xs.length c], .int .i64 kk] w fun e w' => ∃ v, e = .returned (.tuple #[.agg #[.int .i64 r1, v], .int .i64 r3]) ∧ Kd.S k89 89 w' w.heap.size (fun _ => True) v r2 ∧ Below w.heap.size w w' := by
 have hmf : ∀ (fn : Fn) (first cap : Array Value) (w : World), (Instr.makeFunc fn first cap).run Try.prog w = .ok (.func fn first cap) w := fun _ _ _ _ => rfl
 unfold impl_RotateSum.f at h
 obtain ⟨b, hs, h⟩ := Option.bind_eq_some_iff.mp h
 have hu49 := Try.underlying49
 have HR := Aside0.mk hr
 have HC := Aside0.mk hc
 have HS := Aside0.mk hs
 have H := Aside0.mk h
 have k2 := blk_alloc (blk_alloc (blk_new w (.cells #[.int .i64 p, .slice A xs.length c] 49)) (.cells #[.int .i64 kk] 2)) (.cells #[.int .i64 0, .slice none 0 0] 49)
 have k3 := blk_alloc (blk_new (w.alloc (.cells #[.int .i64 p, .slice A xs.length c] 49)) (.cells #[.int .i64 kk] 2)) (.cells #[.int .i64 0, .slice none 0 0] 49)
 have k4 := blk_new ((w.alloc (.cells #[.int .i64 p, .slice A xs.length c] 49)).alloc (.cells #[.int .i64 kk] 2)) (.cells #[.int .i64 0, .slice none 0 0] 49)
 have s3 : (w.alloc (.cells #[.int .i64 p, .slice A xs.length c] 49)).heap.size = w.heap.size + 1 := by simp
 have s4 : ((w.alloc (.cells #[.int .i64 p, .slice A xs.length c] 49)).alloc (.cells #[.int .i64 kk] 2)).heap.size = w.heap.size + 1 + 1 := by simp
 rw [s3] at k3
 rw [s4] at k4
 have KB0 := Aside0.mk k2
 have KK0 := Aside0.mk k3
 have KR0 := Aside0.mk k4
 have HB0 := Aside0.mk (below_alloc (below_alloc (below_alloc (Below.refl w.heap.size w) (.cells #[.int .i64 p, .slice A xs.length c] 49)) (.cells #[.int .i64 kk] 2)) (.cells #[.int .i64 0, .slice none 0 0] 49))
 clear hr hc hs h k2 k3 k4 s3 s4
 go_enter Try.func51, Try.ntmps51
 go_wp2_with fail
 generalize ((w.alloc (.cells #[.int .i64 p, .slice A xs.length c] 49)).alloc (.cells #[.int .i64 kk] 2)).alloc (.cells #[.int .i64 0, .slice none 0 0] 49) = w1 at KB0 KK0 KR0 HB0 ⊢
 obtain ⟨B4, e4⟩ : ∃ x, x = w.heap.size + 1 + 1 := ⟨_, rfl⟩
 obtain ⟨B3, e3⟩ : ∃ x, x = w.heap.size + 1 := ⟨_, rfl⟩
 obtain ⟨B2, e2⟩ : ∃ x, x = w.heap.size := ⟨_, rfl⟩
 have g4 : w.heap.size ≤ B4 := by omega
 rw [← e4] at KR0
 rw [← e3] at KK0
 rw [show w1.heap[w.heap.size]? = w1.heap[B2]? by rw [e2]] at KB0
 try rw [show w.heap.size + 2 = B4 by omega]
 try rw [← e4]
 rw [← e3]
 rw [show (Value.pointer (some ⟨w.heap.size, 0, none⟩)) = Value.pointer (some ⟨B2, 0, none⟩) by rw [e2]]
 clear e2 e3 e4
 refine (impl_IsSum.calls k p _ _ xs b w1 (Kd.C_below HR.out HB0.out) HC.out HS.out).mono ?_
 rintro e w2 ⟨rfl, hb2⟩
 have KB2 := Aside0.mk (blk_below KB0.out hb2)
 have KK2 := Aside0.mk (blk_below KK0.out hb2)
 have KR2 := Aside0.mk (blk_below KR0.out hb2)
 have HB2 := Aside0.mk (below_step HB0.out hb2)
 clear hb2 KB0 KK0 KR0 HB0
 have hx0 : w2.cell? ⟨B2, 0, none⟩ = some (.int .i64 p) := (blk_cell KB2.out 0).trans rfl
 have hx1 : w2.cell? ⟨B2, 1, none⟩ = some (.slice A xs.length c) := (blk_cell KB2.out 1).trans rfl
 have hk0 : w2.cell? ⟨B3, 0, none⟩ = some (.int .i64 kk) := (blk_cell KK2.out 0).trans rfl
 have hq0 : w2.cell? ⟨B4, 0, none⟩ = some (.int .i64 0) := (blk_cell KR2.out 0).trans rfl
 have hq1 : w2.cell? ⟨B4, 1, none⟩ = some (.slice none 0 0) := (blk_cell KR2.out 1).trans rfl
 have hf0 := blk_frozen KR2.out 0
 have hf1 := blk_frozen KR2.out 1
 cases b
 ·have e0 : ((0 : Int), ([] : List S89), (1 : Int)) = (r1, r2, r3) := by have h := H.out; rw [if_neg (by simp)] at h; exact Option.some.inj h
  cases e0
  go_wp2
  refine bodyPost_ret (results_ct rfl _ _ B4 49 #[.int .i64 0, .slice none 0 0] (0, 0) _ rfl (by refine blk_put (cs := #[.int .i64 0, .slice none 0 0]) ?_ 1 _ rfl; refine blk_put (cs := #[.int .i64 0, .slice none 0 0]) ?_ 0 _ rfl; exact KR2.out) Try.underlying49 rfl (by kernel_rfl)) rfl ?_
  exact ⟨_, rfl, Kd.S_nil _ _ _ _ _, below_set (below_set HB2.out g4) g4⟩
 ·have h := H.out
  rw [if_pos (by first | rfl | trivial)] at h
  obtain ⟨t, ht, h⟩ := Option.bind_eq_some_iff.mp h
  have HT := Aside0.mk ht
  have H2 := Aside0.mk h
  clear h ht H
  go_wp2_with fail
  refine (impl_in.calls kk 0 1000 t w2 HT.out).mono ?_
  rintro e w3 ⟨rfl, ⟨nd, rfl⟩⟩
  cases t
  ·have e0 : ((0 : Int), ([] : List S89), (2 : Int)) = (r1, r2, r3) := by have h := H2.out; rw [if_neg (by simp)] at h; exact Option.some.inj h
   cases e0
   go_wp2
   refine bodyPost_ret (results_ct rfl _ _ B4 49 #[.int .i64 0, .slice none 0 0] (0, 0) _ rfl (by (with_reducible repeat (first | refine blk_drewN ?_ _ | refine blk_drew ?_)); refine blk_put (cs := #[.int .i64 0, .slice none 0 0]) ?_ 1 _ rfl; refine blk_put (cs := #[.int .i64 0, .slice none 0 0]) ?_ 0 _ rfl; exact KR2.out) Try.underlying49 rfl (by kernel_rfl)) rfl ?_
   exact ⟨_, rfl, Kd.S_nil _ _ _ _ _, pw_below_drewN (below_set (below_set HB2.out g4) g4) _⟩
  ·have h := H2.out
   rw [if_pos (by first | rfl | trivial)] at h
   split at h
   ·rename_i hq
    have HQ := Aside0.mk hq
    have HLR := Aside0.mk (Option.some.inj h)
    clear h hq H2
    go_wp2_with fail
    have bd := pw_below_drewN (Below.refl w2.heap.size w2) nd
    have KK3 := Aside0.mk (blk_below KK2.out bd)
    have KR3 := Aside0.mk (blk_below KR2.out bd)
    have HB3 := Aside0.mk (below_step HB2.out bd)
    clear bd hx0 hx1 hk0 hq0 hq1 hf0 hf1 KK2 KR2 HB2 KB2
    generalize w2.drewN nd = w3 at KK3 KR3 HB3 ⊢
    refine (impl_renamed.calls 103 Try.f103 Try.func103 (by kernel_rfl) rfl #[.pointer (some ⟨B3, 0, none⟩)] (fun l => rotT kk l) p A c xs w3 (Kd.C_below HR.out HB3.out) HC.out HQ.out.1 HQ.out.2.1 HQ.out.2.2.1 ?_).mono ?_
    ·intro x A' c' w' hx hb hC hcc
     exact impl_RotateSum_1.calls B3 kk A' c' x.f0 w' (blk_below KK3.out hb) hC hcc (HQ.out.2.2.2 x hx)
    ·rintro e w4 ⟨v4, rfl, hS4, hb4⟩
     have HS4 := Aside0.mk (Kd.S_lower hS4 HB3.out.size)
     have HB4 := Aside0.mk (below_step HB3.out hb4)
     have KR4 := Aside0.mk (blk_below KR3.out hb4)
     clear hS4 hb4 KK3 KR3 HB3
     go_wp2_with fail
     refine (impl_limited_S.calls p v4 _ w w4 HB4.out HS4.out).mono ?_
     rw [HLR.out]
     rintro e w5 ⟨v5, rfl, hS5, hb5, hb6⟩
     have HS5 := Aside0.mk (show Kd.S k89 89 w5 w.heap.size (fun _ => True) v5 r2 from hS5)
     have HB5 := Aside0.mk hb5
     have KR5 := Aside0.mk (blk_below KR4.out hb6)
     clear hS5 hb5 hb6
     have hq0 : w5.cell? ⟨B4, 0, none⟩ = some (.int .i64 0) := (blk_cell KR5.out 0).trans rfl
     have hq1 : w5.cell? ⟨B4, 1, none⟩ = some (.slice none 0 0) := (blk_cell KR5.out 1).trans rfl
     have hf0 := blk_frozen KR5.out 0
     have hf1 := blk_frozen KR5.out 1
     obtain ⟨Au, cu, eu⟩ := Kd.S_slice HS5.out
     subst eu
     go_wp2
     refine bodyPost_ret (results_ct rfl _ _ B4 49 #[.int .i64 r1, .slice Au r2.length cu] (0, 0) _ rfl (by refine blk_put (cs := #[.int .i64 r1, .slice none 0 0]) ?_ 1 _ rfl; refine blk_put (cs := #[.int .i64 0, .slice none 0 0]) ?_ 0 _ rfl; exact KR5.out) Try.underlying49 rfl (by kernel_rfl)) rfl ?_
     exact ⟨_, rfl, Kd.S_set (Kd.S_set HS5.out KR5.out (by decide) 0 _) (blk_put KR5.out 0 _ rfl) (by decide) 1 _, below_set (below_set HB5.out g4) g4⟩
   ·cases h

/-! ### laws_FnExactRotateSum: function 14, by hand -/
theorem laws_FnExactRotateSum.range {w0 W w' : World} {v : Value} {r : List S89} (h : Kd.S k89 89 w' W.heap.size (fun _ => True) v r) (hb : w0.heap.size ≤ W.heap.size) : Kd.S k89 89 w' w0.heap.size (fun k_ => W.heap.size ≤ k_ ∧ k_ < w'.heap.size) v r := Kd.S_lower (Kd.S_mono (Kd.S_bound h) (fun k_ h_ => ⟨h_.2.1, h_.2.2.1⟩)) hb
def laws_FnExactRotateSum.Told (z0 : Int) (l0 : List S110) (i1 : Int) (k : Nat) (c m g0 : Int) (g1 p1 : List S89) (s0 m10 : Int) (y0 q0 : List S89) : Prop :=
 laws_toSum.f k z0 l0 = some (z0, y0) ∧ laws_eqSum.f k z0 y0 z0 y0 = some true ∧ laws_szSum.f k z0 l0 1048576 = some s0 ∧ spec_RotateSum.f k z0 y0 i1 = some (g0, g1, c) ∧ impl_RotateSum.f k z0 y0 i1 = some (g0, g1, c) ∧ laws_eqSum.f k g0 g1 g0 g1 = some true ∧ laws_markSum.f k y0 1 = some (m10, q0) ∧ laws_markSum.f k g1 1 = some (m, p1) ∧ laws_heldSum.f k g0 p1 1 = some m ∧ 0 ≤ m ∧ 0 ≤ m10 ∧ 0 ≤ s0
set_option maxHeartbeats 16000000 in
set_option maxRecDepth 100000 in
theorem laws_FnExactRotateSum.one (A0 : Option Addr) (c0 : Nat) (z0 : Int) (l0 : List S110) (i1 : Int) (w : World) (hr0 : Kd.C k110 w A0 l0.length l0) (hc0 : l0.length ≤ c0) (k : Nat) (c m g0 : Int) (g1 p1 : List S89) (s0 m10 : Int) (y0 q0 : List S89) (h : laws_FnExactRotateSum.Told z0 l0 i1 k c m g0 g1 p1 s0 m10 y0 q0) :
  Calls Try.prog 14 #[.agg #[.int .i64 z0, .slice A0 l0.length c0], .int .i64 i1] w fun e w' => e = .returned (.bool true) ∧ Below w.heap.size w w' := by
 have huB := Try.underlying49
 have huA := Try.underlying44
 obtain ⟨h_FT0, h_FQ0, h_FZ0, h_FS, h_FI, h_FE, h_FK0, h_FM, h_FH, hb_0, hb_1, hb_2⟩ := h
 have FT0 := Aside0.mk h_FT0
 clear h_FT0
 have FQ0 := Aside0.mk h_FQ0
 clear h_FQ0
 have FZ0 := Aside0.mk h_FZ0
 clear h_FZ0
 have FS := Aside0.mk h_FS
 clear h_FS
 have FI := Aside0.mk h_FI
 clear h_FI
 have FE := Aside0.mk h_FE
 clear h_FE
 have FK0 := Aside0.mk h_FK0
 clear h_FK0
 have FM := Aside0.mk h_FM
 clear h_FM
 have FH := Aside0.mk h_FH
 clear h_FH
 have d3 : decide (m < 0) = false := decide_eq_false (by omega)
 have d2 : decide (m10 < 0) = false := decide_eq_false (by omega)
 have ds0 : decide (s0 < 0) = false := decide_eq_false (by omega)
 clear hb_0 hb_1 hb_2
 have HB := Aside0.mk (Below.refl w.heap.size w)
 have HA0 := Aside0.mk hr0
 have HC0 := Aside0.mk hc0
 clear hr0 hc0
 have HW0 := HB
 go_enter Try.func14, Try.ntmps14
 have hn_P0_0 : (w.alloc (.cells #[.int .i64 z0, .slice A0 l0.length c0] 44)).cell? ⟨w.heap.size, 0, none⟩ = some (.int .i64 z0) := (blk_cell (blk_new w (.cells #[.int .i64 z0, .slice A0 l0.length c0] 44)) 0).trans rfl
 have hn_P0_1 : (w.alloc (.cells #[.int .i64 z0, .slice A0 l0.length c0] 44)).cell? ⟨w.heap.size, 1, none⟩ = some (.slice A0 l0.length c0) := (blk_cell (blk_new w (.cells #[.int .i64 z0, .slice A0 l0.length c0] 44)) 1).trans rfl
 go_wp2_with fail
 obtain ⟨w1, h_⟩ : ∃ x_ : World, w.alloc (.cells #[.int .i64 z0, .slice A0 l0.length c0] 44) = x_ := ⟨_, rfl⟩
 rw [h_]
 have B_ : Aside0 (Below w.heap.size w w1) := ⟨by rw [← h_]; exact below_alloc (Below.refl _ _) _⟩
 have KP0 : Aside0 (w1.heap[w.heap.size]? = some (.cells #[.int .i64 z0, .slice A0 l0.length c0] 44 (0, 0))) := ⟨by rw [← h_]; exact blk_new _ _⟩
 clear h_
 have n_ := Aside0.mk (below_step HB.out B_.out)
 clear HB
 have HB := n_
 clear n_
 have Z0 := Aside0.mk (B_.out).size
 clear B_
 have Z1 := Aside0.mk (blk_lt KP0.out)
 refine (laws_szSum.calls k z0 _ _ l0 1048576 s0 _ (Kd.C_below HA0.out HB.out) HC0.out FZ0.out).mono ?_
 rintro e w2 ⟨rfl, hb⟩
 clear hn_P0_0 hn_P0_1
 have B_ := Aside0.mk hb
 clear hb
 have n_ := Aside0.mk (blk_below KP0.out B_.out)
 clear KP0
 have KP0 := n_
 clear n_
 have n_ := Aside0.mk (below_step HB.out B_.out)
 clear HB
 have HB := n_
 clear n_
 have Z2 := Aside0.mk (B_.out).size
 clear B_
 have hz_P0_0_0 : w2.cell? ⟨w.heap.size, 0, none⟩ = some (.int .i64 z0) := (blk_cell (KP0.out) 0).trans rfl
 have hz_P0_1_1 : w2.cell? ⟨w.heap.size, 1, none⟩ = some (.slice A0 l0.length c0) := (blk_cell (KP0.out) 1).trans rfl
 go_wp2_with fail
 refine (laws_toSum.calls k z0 _ _ l0 z0 y0 _ (Kd.C_below HA0.out HB.out) HC0.out FT0.out).mono ?_
 rintro e w3 ⟨v_, rfl, ho, hb⟩
 clear hz_P0_0_0 hz_P0_1_1
 have Sa0_ := Aside0.mk (laws_FnExactRotateSum.range ho HB.out.size)
 have B_ := Aside0.mk hb
 clear ho hb
 have n_ := Aside0.mk (blk_below KP0.out B_.out)
 clear KP0
 have KP0 := n_
 clear n_
 have n_ := Aside0.mk (below_step HB.out B_.out)
 clear HB
 have HB := n_
 clear n_
 have Z3 := Aside0.mk (B_.out).size
 clear B_
 have Sa0 := Sa0_
 clear Sa0_
 obtain ⟨Aa0, ca0, e_⟩ := Kd.S_slice Sa0.out
 subst e_
 have hz_P0_0_0 : w3.cell? ⟨w.heap.size, 0, none⟩ = some (.int .i64 z0) := (blk_cell (KP0.out) 0).trans rfl
 have hz_P0_1_1 : w3.cell? ⟨w.heap.size, 1, none⟩ = some (.slice A0 l0.length c0) := (blk_cell (KP0.out) 1).trans rfl
 go_wp2_with fail
 refine (spec_RotateSum.calls k z0 _ _ y0 i1 g0 g1 c _ (Kd.S_reads' Sa0.out).2.2 (Kd.S_reads' Sa0.out).2.1 FS.out).mono ?_
 rintro e w4 ⟨v_, rfl, ho, hb⟩
 clear hz_P0_0_0 hz_P0_1_1
 have SW_ := Aside0.mk (laws_FnExactRotateSum.range ho HB.out.size)
 have B_ := Aside0.mk hb
 clear ho hb
 have n_ := Aside0.mk (blk_below KP0.out B_.out)
 clear KP0
 have KP0 := n_
 clear n_
 have n_ := Aside0.mk (Kd.S_below Sa0.out B_.out)
 clear Sa0
 have Sa0 := n_
 clear n_
 have n_ := Aside0.mk (below_step HB.out B_.out)
 clear HB
 have HB := n_
 clear n_
 have Z4 := Aside0.mk (B_.out).size
 clear B_
 have SW := SW_
 clear SW_
 obtain ⟨AW, cW, e_⟩ := Kd.S_slice SW.out
 subst e_
 clear Sa0
 have hz_P0_0_0 : w4.cell? ⟨w.heap.size, 0, none⟩ = some (.int .i64 z0) := (blk_cell (KP0.out) 0).trans rfl
 have hz_P0_1_1 : w4.cell? ⟨w.heap.size, 1, none⟩ = some (.slice A0 l0.length c0) := (blk_cell (KP0.out) 1).trans rfl
 have ha0_P0_0 : (w4.alloc (.cells #[.int .i64 g0, .slice AW g1.length cW] 49)).cell? ⟨w.heap.size, 0, none⟩ = some (.int .i64 z0) := (blk_cell (blk_alloc (KP0.out) _) 0).trans rfl
 have ha0_P0_1 : (w4.alloc (.cells #[.int .i64 g0, .slice AW g1.length cW] 49)).cell? ⟨w.heap.size, 1, none⟩ = some (.slice A0 l0.length c0) := (blk_cell (blk_alloc (KP0.out) _) 1).trans rfl
 have hn_W_0 : (w4.alloc (.cells #[.int .i64 g0, .slice AW g1.length cW] 49)).cell? ⟨w4.heap.size, 0, none⟩ = some (.int .i64 g0) := (blk_cell (blk_new w4 (.cells #[.int .i64 g0, .slice AW g1.length cW] 49)) 0).trans rfl
 have hn_W_1 : (w4.alloc (.cells #[.int .i64 g0, .slice AW g1.length cW] 49)).cell? ⟨w4.heap.size, 1, none⟩ = some (.slice AW g1.length cW) := (blk_cell (blk_new w4 (.cells #[.int .i64 g0, .slice AW g1.length cW] 49)) 1).trans rfl
 go_wp2_with fail
 obtain ⟨w5, h_⟩ : ∃ x_ : World, w4.alloc (.cells #[.int .i64 g0, .slice AW g1.length cW] 49) = x_ := ⟨_, rfl⟩
 rw [h_]
 have B_ : Aside0 (Below w4.heap.size w4 w5) := ⟨by rw [← h_]; exact below_alloc (Below.refl _ _) _⟩
 have KW : Aside0 (w5.heap[w4.heap.size]? = some (.cells #[.int .i64 g0, .slice AW g1.length cW] 49 (0, 0))) := ⟨by rw [← h_]; exact blk_new _ _⟩
 clear h_
 have n_ := Aside0.mk (blk_below KP0.out B_.out)
 clear KP0
 have KP0 := n_
 clear n_
 have n_ := Aside0.mk (Kd.S_below SW.out B_.out)
 clear SW
 have SW := n_
 clear n_
 have n_ := Aside0.mk (below_step HB.out B_.out)
 clear HB
 have HB := n_
 clear n_
 have Z5 := Aside0.mk (B_.out).size
 clear B_
 have Z6 := Aside0.mk (blk_lt KW.out)
 refine (laws_toSum.calls k z0 _ _ l0 z0 y0 _ (Kd.C_below HA0.out HB.out) HC0.out FT0.out).mono ?_
 rintro e w6 ⟨v_, rfl, ho, hb⟩
 clear hz_P0_0_0 hz_P0_1_1 ha0_P0_0 ha0_P0_1 hn_W_0 hn_W_1
 have Sx0_ := Aside0.mk (laws_FnExactRotateSum.range ho HB.out.size)
 have B_ := Aside0.mk hb
 clear ho hb
 have n_ := Aside0.mk (blk_below KP0.out B_.out)
 clear KP0
 have KP0 := n_
 clear n_
 have n_ := Aside0.mk (blk_below KW.out B_.out)
 clear KW
 have KW := n_
 clear n_
 have n_ := Aside0.mk (Kd.S_below SW.out B_.out)
 clear SW
 have SW := n_
 clear n_
 have n_ := Aside0.mk (below_step HB.out B_.out)
 clear HB
 have HB := n_
 clear n_
 have Z7 := Aside0.mk (B_.out).size
 clear B_
 have Sx0 := Sx0_
 clear Sx0_
 obtain ⟨Ax0, cx0, e_⟩ := Kd.S_slice Sx0.out
 subst e_
 have hz_P0_0_0 : w6.cell? ⟨w.heap.size, 0, none⟩ = some (.int .i64 z0) := (blk_cell (KP0.out) 0).trans rfl
 have hz_P0_1_1 : w6.cell? ⟨w.heap.size, 1, none⟩ = some (.slice A0 l0.length c0) := (blk_cell (KP0.out) 1).trans rfl
 have hz_W_0_2 : w6.cell? ⟨w4.heap.size, 0, none⟩ = some (.int .i64 g0) := (blk_cell (KW.out) 0).trans rfl
 have hz_W_1_3 : w6.cell? ⟨w4.heap.size, 1, none⟩ = some (.slice AW g1.length cW) := (blk_cell (KW.out) 1).trans rfl
 have ha0_P0_0 : (w6.alloc (.cells #[.int .i64 z0, .slice Ax0 y0.length cx0] 49)).cell? ⟨w.heap.size, 0, none⟩ = some (.int .i64 z0) := (blk_cell (blk_alloc (KP0.out) _) 0).trans rfl
 have ha0_P0_1 : (w6.alloc (.cells #[.int .i64 z0, .slice Ax0 y0.length cx0] 49)).cell? ⟨w.heap.size, 1, none⟩ = some (.slice A0 l0.length c0) := (blk_cell (blk_alloc (KP0.out) _) 1).trans rfl
 have ha0_W_0 : (w6.alloc (.cells #[.int .i64 z0, .slice Ax0 y0.length cx0] 49)).cell? ⟨w4.heap.size, 0, none⟩ = some (.int .i64 g0) := (blk_cell (blk_alloc (KW.out) _) 0).trans rfl
 have ha0_W_1 : (w6.alloc (.cells #[.int .i64 z0, .slice Ax0 y0.length cx0] 49)).cell? ⟨w4.heap.size, 1, none⟩ = some (.slice AW g1.length cW) := (blk_cell (blk_alloc (KW.out) _) 1).trans rfl
 have hn_X0_0 : (w6.alloc (.cells #[.int .i64 z0, .slice Ax0 y0.length cx0] 49)).cell? ⟨w6.heap.size, 0, none⟩ = some (.int .i64 z0) := (blk_cell (blk_new w6 (.cells #[.int .i64 z0, .slice Ax0 y0.length cx0] 49)) 0).trans rfl
 have hn_X0_1 : (w6.alloc (.cells #[.int .i64 z0, .slice Ax0 y0.length cx0] 49)).cell? ⟨w6.heap.size, 1, none⟩ = some (.slice Ax0 y0.length cx0) := (blk_cell (blk_new w6 (.cells #[.int .i64 z0, .slice Ax0 y0.length cx0] 49)) 1).trans rfl
 go_wp2_with fail
 obtain ⟨w7, h_⟩ : ∃ x_ : World, w6.alloc (.cells #[.int .i64 z0, .slice Ax0 y0.length cx0] 49) = x_ := ⟨_, rfl⟩
 rw [h_]
 have B_ : Aside0 (Below w6.heap.size w6 w7) := ⟨by rw [← h_]; exact below_alloc (Below.refl _ _) _⟩
 have KX0 : Aside0 (w7.heap[w6.heap.size]? = some (.cells #[.int .i64 z0, .slice Ax0 y0.length cx0] 49 (0, 0))) := ⟨by rw [← h_]; exact blk_new _ _⟩
 clear h_
 have n_ := Aside0.mk (blk_below KP0.out B_.out)
 clear KP0
 have KP0 := n_
 clear n_
 have n_ := Aside0.mk (blk_below KW.out B_.out)
 clear KW
 have KW := n_
 clear n_
 have n_ := Aside0.mk (Kd.S_below SW.out B_.out)
 clear SW
 have SW := n_
 clear n_
 have n_ := Aside0.mk (Kd.S_below Sx0.out B_.out)
 clear Sx0
 have Sx0 := n_
 clear n_
 have n_ := Aside0.mk (below_step HB.out B_.out)
 clear HB
 have HB := n_
 clear n_
 have Z8 := Aside0.mk (B_.out).size
 clear B_
 have Z9 := Aside0.mk (blk_lt KX0.out)
 refine (impl_RotateSum.calls k z0 _ _ y0 i1 g0 g1 c _ (Kd.S_reads' Sx0.out).2.2 (Kd.S_reads' Sx0.out).2.1 FI.out).mono ?_
 rintro e w8 ⟨v_, rfl, ho, hb⟩
 clear hz_P0_0_0 hz_P0_1_1 hz_W_0_2 hz_W_1_3 ha0_P0_0 ha0_P0_1 ha0_W_0 ha0_W_1 hn_X0_0 hn_X0_1
 have Sg_ := Aside0.mk (laws_FnExactRotateSum.range ho HB.out.size)
 have B_ := Aside0.mk hb
 clear ho hb
 have n_ := Aside0.mk (blk_below KP0.out B_.out)
 clear KP0
 have KP0 := n_
 clear n_
 have n_ := Aside0.mk (blk_below KW.out B_.out)
 clear KW
 have KW := n_
 clear n_
 have n_ := Aside0.mk (blk_below KX0.out B_.out)
 clear KX0
 have KX0 := n_
 clear n_
 have n_ := Aside0.mk (Kd.S_below SW.out B_.out)
 clear SW
 have SW := n_
 clear n_
 have n_ := Aside0.mk (Kd.S_below Sx0.out B_.out)
 clear Sx0
 have Sx0 := n_
 clear n_
 have n_ := Aside0.mk (below_step HB.out B_.out)
 clear HB
 have HB := n_
 clear n_
 have Z10 := Aside0.mk (B_.out).size
 clear B_
 have Sg := Sg_
 clear Sg_
 obtain ⟨Ag, cg, e_⟩ := Kd.S_slice Sg.out
 subst e_
 have hz_P0_0_0 : w8.cell? ⟨w.heap.size, 0, none⟩ = some (.int .i64 z0) := (blk_cell (KP0.out) 0).trans rfl
 have hz_P0_1_1 : w8.cell? ⟨w.heap.size, 1, none⟩ = some (.slice A0 l0.length c0) := (blk_cell (KP0.out) 1).trans rfl
 have hz_W_0_2 : w8.cell? ⟨w4.heap.size, 0, none⟩ = some (.int .i64 g0) := (blk_cell (KW.out) 0).trans rfl
 have hz_W_1_3 : w8.cell? ⟨w4.heap.size, 1, none⟩ = some (.slice AW g1.length cW) := (blk_cell (KW.out) 1).trans rfl
 have hz_X0_0_4 : w8.cell? ⟨w6.heap.size, 0, none⟩ = some (.int .i64 z0) := (blk_cell (KX0.out) 0).trans rfl
 have hz_X0_1_5 : w8.cell? ⟨w6.heap.size, 1, none⟩ = some (.slice Ax0 y0.length cx0) := (blk_cell (KX0.out) 1).trans rfl
 have ha0_P0_0 : (w8.alloc (.cells #[.int .i64 g0, .slice Ag g1.length cg] 49)).cell? ⟨w.heap.size, 0, none⟩ = some (.int .i64 z0) := (blk_cell (blk_alloc (KP0.out) _) 0).trans rfl
 have ha0_P0_1 : (w8.alloc (.cells #[.int .i64 g0, .slice Ag g1.length cg] 49)).cell? ⟨w.heap.size, 1, none⟩ = some (.slice A0 l0.length c0) := (blk_cell (blk_alloc (KP0.out) _) 1).trans rfl
 have ha0_W_0 : (w8.alloc (.cells #[.int .i64 g0, .slice Ag g1.length cg] 49)).cell? ⟨w4.heap.size, 0, none⟩ = some (.int .i64 g0) := (blk_cell (blk_alloc (KW.out) _) 0).trans rfl
 have ha0_W_1 : (w8.alloc (.cells #[.int .i64 g0, .slice Ag g1.length cg] 49)).cell? ⟨w4.heap.size, 1, none⟩ = some (.slice AW g1.length cW) := (blk_cell (blk_alloc (KW.out) _) 1).trans rfl
 have ha0_X0_0 : (w8.alloc (.cells #[.int .i64 g0, .slice Ag g1.length cg] 49)).cell? ⟨w6.heap.size, 0, none⟩ = some (.int .i64 z0) := (blk_cell (blk_alloc (KX0.out) _) 0).trans rfl
 have ha0_X0_1 : (w8.alloc (.cells #[.int .i64 g0, .slice Ag g1.length cg] 49)).cell? ⟨w6.heap.size, 1, none⟩ = some (.slice Ax0 y0.length cx0) := (blk_cell (blk_alloc (KX0.out) _) 1).trans rfl
 have hn_G_0 : (w8.alloc (.cells #[.int .i64 g0, .slice Ag g1.length cg] 49)).cell? ⟨w8.heap.size, 0, none⟩ = some (.int .i64 g0) := (blk_cell (blk_new w8 (.cells #[.int .i64 g0, .slice Ag g1.length cg] 49)) 0).trans rfl
 have hn_G_1 : (w8.alloc (.cells #[.int .i64 g0, .slice Ag g1.length cg] 49)).cell? ⟨w8.heap.size, 1, none⟩ = some (.slice Ag g1.length cg) := (blk_cell (blk_new w8 (.cells #[.int .i64 g0, .slice Ag g1.length cg] 49)) 1).trans rfl
 go_wp2_with fail
 obtain ⟨w9, h_⟩ : ∃ x_ : World, w8.alloc (.cells #[.int .i64 g0, .slice Ag g1.length cg] 49) = x_ := ⟨_, rfl⟩
 rw [h_]
 have B_ : Aside0 (Below w8.heap.size w8 w9) := ⟨by rw [← h_]; exact below_alloc (Below.refl _ _) _⟩
 have KG : Aside0 (w9.heap[w8.heap.size]? = some (.cells #[.int .i64 g0, .slice Ag g1.length cg] 49 (0, 0))) := ⟨by rw [← h_]; exact blk_new _ _⟩
 clear h_
 have n_ := Aside0.mk (blk_below KP0.out B_.out)
 clear KP0
 have KP0 := n_
 clear n_
 have n_ := Aside0.mk (blk_below KW.out B_.out)
 clear KW
 have KW := n_
 clear n_
 have n_ := Aside0.mk (blk_below KX0.out B_.out)
 clear KX0
 have KX0 := n_
 clear n_
 have n_ := Aside0.mk (Kd.S_below SW.out B_.out)
 clear SW
 have SW := n_
 clear n_
 have n_ := Aside0.mk (Kd.S_below Sx0.out B_.out)
 clear Sx0
 have Sx0 := n_
 clear n_
 have n_ := Aside0.mk (Kd.S_below Sg.out B_.out)
 clear Sg
 have Sg := n_
 clear n_
 have n_ := Aside0.mk (below_step HB.out B_.out)
 clear HB
 have HB := n_
 clear n_
 have Z11 := Aside0.mk (B_.out).size
 clear B_
 have Z12 := Aside0.mk (blk_lt KG.out)
 refine (laws_eqSum.calls k g0 _ _ g1 g0 _ _ g1 true _ (Kd.S_reads' Sg.out).2.2 (Kd.S_reads' Sg.out).2.1 (Kd.S_reads' SW.out).2.2 (Kd.S_reads' SW.out).2.1 FE.out).mono ?_
 rintro e w10 ⟨rfl, hb⟩
 clear hz_P0_0_0 hz_P0_1_1 hz_W_0_2 hz_W_1_3 hz_X0_0_4 hz_X0_1_5 ha0_P0_0 ha0_P0_1 ha0_W_0 ha0_W_1 ha0_X0_0 ha0_X0_1 hn_G_0 hn_G_1
 have B_ := Aside0.mk hb
 clear hb
 have n_ := Aside0.mk (blk_below KP0.out B_.out)
 clear KP0
 have KP0 := n_
 clear n_
 have n_ := Aside0.mk (blk_below KW.out B_.out)
 clear KW
 have KW := n_
 clear n_
 have n_ := Aside0.mk (blk_below KX0.out B_.out)
 clear KX0
 have KX0 := n_
 clear n_
 have n_ := Aside0.mk (blk_below KG.out B_.out)
 clear KG
 have KG := n_
 clear n_
 have n_ := Aside0.mk (Kd.S_below SW.out B_.out)
 clear SW
 have SW := n_
 clear n_
 have n_ := Aside0.mk (Kd.S_below Sx0.out B_.out)
 clear Sx0
 have Sx0 := n_
 clear n_
 have n_ := Aside0.mk (Kd.S_below Sg.out B_.out)
 clear Sg
 have Sg := n_
 clear n_
 have n_ := Aside0.mk (below_step HB.out B_.out)
 clear HB
 have HB := n_
 clear n_
 have Z13 := Aside0.mk (B_.out).size
 clear B_
 have hz_P0_0_0 : w10.cell? ⟨w.heap.size, 0, none⟩ = some (.int .i64 z0) := (blk_cell (KP0.out) 0).trans rfl
 have hz_P0_1_1 : w10.cell? ⟨w.heap.size, 1, none⟩ = some (.slice A0 l0.length c0) := (blk_cell (KP0.out) 1).trans rfl
 have hz_W_0_2 : w10.cell? ⟨w4.heap.size, 0, none⟩ = some (.int .i64 g0) := (blk_cell (KW.out) 0).trans rfl
 have hz_W_1_3 : w10.cell? ⟨w4.heap.size, 1, none⟩ = some (.slice AW g1.length cW) := (blk_cell (KW.out) 1).trans rfl
 have hz_X0_0_4 : w10.cell? ⟨w6.heap.size, 0, none⟩ = some (.int .i64 z0) := (blk_cell (KX0.out) 0).trans rfl
 have hz_X0_1_5 : w10.cell? ⟨w6.heap.size, 1, none⟩ = some (.slice Ax0 y0.length cx0) := (blk_cell (KX0.out) 1).trans rfl
 have hz_G_0_6 : w10.cell? ⟨w8.heap.size, 0, none⟩ = some (.int .i64 g0) := (blk_cell (KG.out) 0).trans rfl
 have hz_G_1_7 : w10.cell? ⟨w8.heap.size, 1, none⟩ = some (.slice Ag g1.length cg) := (blk_cell (KG.out) 1).trans rfl
 try go_wp2_with fail
 clear hz_P0_0_0 hz_P0_1_1 hz_W_0_2 hz_W_1_3 hz_X0_0_4 hz_X0_1_5 hz_G_0_6 hz_G_1_7
 have B_ : Aside0 (Below w10.heap.size w10 w10.drew) := ⟨below_drew1 (Below.refl _ _)⟩
 have n_ := Aside0.mk (blk_below KP0.out B_.out)
 clear KP0
 have KP0 := n_
 clear n_
 have n_ := Aside0.mk (blk_below KW.out B_.out)
 clear KW
 have KW := n_
 clear n_
 have n_ := Aside0.mk (blk_below KX0.out B_.out)
 clear KX0
 have KX0 := n_
 clear n_
 have n_ := Aside0.mk (blk_below KG.out B_.out)
 clear KG
 have KG := n_
 clear n_
 have n_ := Aside0.mk (Kd.S_below SW.out B_.out)
 clear SW
 have SW := n_
 clear n_
 have n_ := Aside0.mk (Kd.S_below Sx0.out B_.out)
 clear Sx0
 have Sx0 := n_
 clear n_
 have n_ := Aside0.mk (Kd.S_below Sg.out B_.out)
 clear Sg
 have Sg := n_
 clear n_
 have n_ := Aside0.mk (below_step HB.out B_.out)
 clear HB
 have HB := n_
 clear n_
 have Z14 := Aside0.mk (B_.out).size
 clear B_
 refine start_ (n := 5) (S := fun w' => w'.cell? ⟨w6.heap.size, 0, none⟩ = some (.int .i64 z0) ∧ w'.cell? ⟨w6.heap.size, 1, none⟩ = some (.slice Ax0 y0.length cx0) ∧ w'.cell? ⟨w.heap.size, 0, none⟩ = some (.int .i64 z0) ∧ w'.cell? ⟨w.heap.size, 1, none⟩ = some (.slice A0 l0.length c0)) (ds := []) #[false, false, false, false, false] (by kernel_rfl) rfl rfl ⟨(blk_cell KX0.out 0).trans rfl, (blk_cell KX0.out 1).trans rfl, (blk_cell KP0.out 0).trans rfl, (blk_cell KP0.out 1).trans rfl⟩ (fun hHeld => ?_)
 generalize w10.drew = w11 at KP0 KW KX0 KG SW Sx0 Sg HB Z14 hHeld ⊢
 refine take_ (i := 0) (N := some 45) (v := ?_) (a' := ?_) #[true, false, false, false, false] rfl rfl (by kernel_rfl) (fun _ _ _ h => h) (Or.inl ⟨by rfl, ?_⟩) hHeld ?_ ?_
 rotate_left
 ·rintro w' ⟨s0, s1, s2, s3⟩
  go_simp
  with_reducible rfl
 rotate_left
 ·simp only [Act.put, sA, sZ, sS, i64_w, i32_w]
  rfl
 refine take_ (i := 1) (N := some 46) (v := ?_) (a' := ?_) #[true, true, false, false, false] rfl rfl (by kernel_rfl) (fun _ _ _ h => h) (Or.inl ⟨by rfl, ?_⟩) hHeld ?_ ?_
 rotate_left
 ·rintro w' ⟨s0, s1, s2, s3⟩
  go_simp
  with_reducible rfl
 rotate_left
 ·simp only [Act.put, sA, sZ, sS, i64_w, i32_w]
  rfl
 refine one_ (i := 2) (N := some 47) #[true, true, true, false, false] rfl rfl (by kernel_rfl) (by decide) (fun K hK => ?_)
 refine goes_ Try.func35 (by kernel_rfl) rfl #[.agg #[.int .i64 z0, .slice A0 l0.length c0]] (by rfl) rfl rfl (by simp only [List.map_toArray, List.map_cons, List.map_nil]; rfl) ?_
 refine (laws_toSum.calls k z0 _ _ l0 z0 y0 _ (Kd.C_below HA0.out HB.out) HC0.out FT0.out).mono ?_
 rintro e w12 ⟨v_, rfl, ho, hb⟩
 refine ⟨_, rfl, ?_⟩
 have Sq0_ := Aside0.mk (laws_FnExactRotateSum.range ho HB.out.size)
 have B_ := Aside0.mk hb
 clear ho hb
 have n_ := Aside0.mk (blk_below KP0.out B_.out)
 clear KP0
 have KP0 := n_
 clear n_
 have n_ := Aside0.mk (blk_below KW.out B_.out)
 clear KW
 have KW := n_
 clear n_
 have n_ := Aside0.mk (blk_below KX0.out B_.out)
 clear KX0
 have KX0 := n_
 clear n_
 have n_ := Aside0.mk (blk_below KG.out B_.out)
 clear KG
 have KG := n_
 clear n_
 have n_ := Aside0.mk (Kd.S_below SW.out B_.out)
 clear SW
 have SW := n_
 clear n_
 have n_ := Aside0.mk (Kd.S_below Sx0.out B_.out)
 clear Sx0
 have Sx0 := n_
 clear n_
 have n_ := Aside0.mk (Kd.S_below Sg.out B_.out)
 clear Sg
 have Sg := n_
 clear n_
 have n_ := Aside0.mk (below_step HB.out B_.out)
 clear HB
 have HB := n_
 clear n_
 have Z15 := Aside0.mk (B_.out).size
 clear B_
 have Sq0 := Sq0_
 clear Sq0_
 obtain ⟨Aq0, cq0, e_⟩ := Kd.S_slice Sq0.out
 subst e_
 refine hK.out _ _ ⟨(blk_cell KX0.out 0).trans rfl, (blk_cell KX0.out 1).trans rfl, (blk_cell KP0.out 0).trans rfl, (blk_cell KP0.out 1).trans rfl⟩ (fun hHeld => ?_)
 clear hK K
 refine norm_ (a' := ?_) ?_ ?_
 rotate_left
 ·show Act.put _ (some 47) _ = _
  simp only [Act.put, sA, sZ, sS, i64_w, i32_w]
  rfl
 refine one_ (i := 3) (N := some 48) #[true, true, true, true, false] rfl rfl (by kernel_rfl) (by decide) (fun K hK => ?_)
 refine goes_ Try.func37 (by kernel_rfl) rfl #[.agg #[.int .i64 z0, .slice Ax0 y0.length cx0], .agg #[.int .i64 z0, .slice Aq0 y0.length cq0]] (by rfl) rfl rfl (by simp only [List.map_toArray, List.map_cons, List.map_nil]; rfl) ?_
 refine (laws_eqSum.calls k z0 _ _ y0 z0 _ _ y0 true _ (Kd.S_reads' Sx0.out).2.2 (Kd.S_reads' Sx0.out).2.1 (Kd.S_reads' Sq0.out).2.2 (Kd.S_reads' Sq0.out).2.1 FQ0.out).mono ?_
 rintro e w13 ⟨rfl, hb⟩
 refine ⟨_, rfl, ?_⟩
 have B_ := Aside0.mk hb
 clear hb
 have n_ := Aside0.mk (blk_below KP0.out B_.out)
 clear KP0
 have KP0 := n_
 clear n_
 have n_ := Aside0.mk (blk_below KW.out B_.out)
 clear KW
 have KW := n_
 clear n_
 have n_ := Aside0.mk (blk_below KX0.out B_.out)
 clear KX0
 have KX0 := n_
 clear n_
 have n_ := Aside0.mk (blk_below KG.out B_.out)
 clear KG
 have KG := n_
 clear n_
 have n_ := Aside0.mk (Kd.S_below SW.out B_.out)
 clear SW
 have SW := n_
 clear n_
 have n_ := Aside0.mk (Kd.S_below Sx0.out B_.out)
 clear Sx0
 have Sx0 := n_
 clear n_
 have n_ := Aside0.mk (Kd.S_below Sg.out B_.out)
 clear Sg
 have Sg := n_
 clear n_
 have n_ := Aside0.mk (Kd.S_below Sq0.out B_.out)
 clear Sq0
 have Sq0 := n_
 clear n_
 have n_ := Aside0.mk (below_step HB.out B_.out)
 clear HB
 have HB := n_
 clear n_
 have Z16 := Aside0.mk (B_.out).size
 clear B_
 clear Sq0
 refine hK.out _ _ ⟨(blk_cell KX0.out 0).trans rfl, (blk_cell KX0.out 1).trans rfl, (blk_cell KP0.out 0).trans rfl, (blk_cell KP0.out 1).trans rfl⟩ (fun hHeld => ?_)
 clear hK K
 refine norm_ (a' := ?_) ?_ ?_
 rotate_left
 ·show Act.put _ (some 48) _ = _
  simp only [Act.put, sA, sZ, sS, i64_w, i32_w]
  rfl
 refine pure_ (i := 4) (N := some 49) (v := ?_) (a' := ?_) #[true, true, true, true, true] rfl rfl (by kernel_rfl) (fun _ _ _ h => h) (Or.inl ⟨by rfl, ?_⟩) ?_ ?_
 rotate_left
 ·intro w'
  go_simp
  with_reducible rfl
 rotate_left
 ·simp only [Act.put, sA, sZ, sS, i64_w, i32_w]
  rfl
 refine done_ (by kernel_rfl) ?_

 have hz_P0_0_0 : w13.cell? ⟨w.heap.size, 0, none⟩ = some (.int .i64 z0) := (blk_cell (KP0.out) 0).trans rfl
 have hz_P0_1_1 : w13.cell? ⟨w.heap.size, 1, none⟩ = some (.slice A0 l0.length c0) := (blk_cell (KP0.out) 1).trans rfl
 have hz_W_0_2 : w13.cell? ⟨w4.heap.size, 0, none⟩ = some (.int .i64 g0) := (blk_cell (KW.out) 0).trans rfl
 have hz_W_1_3 : w13.cell? ⟨w4.heap.size, 1, none⟩ = some (.slice AW g1.length cW) := (blk_cell (KW.out) 1).trans rfl
 have hz_X0_0_4 : w13.cell? ⟨w6.heap.size, 0, none⟩ = some (.int .i64 z0) := (blk_cell (KX0.out) 0).trans rfl
 have hz_X0_1_5 : w13.cell? ⟨w6.heap.size, 1, none⟩ = some (.slice Ax0 y0.length cx0) := (blk_cell (KX0.out) 1).trans rfl
 have hz_G_0_6 : w13.cell? ⟨w8.heap.size, 0, none⟩ = some (.int .i64 g0) := (blk_cell (KG.out) 0).trans rfl
 have hz_G_1_7 : w13.cell? ⟨w8.heap.size, 1, none⟩ = some (.slice Ag g1.length cg) := (blk_cell (KG.out) 1).trans rfl
 go_wp2_with fail
 refine (laws_markSum.calls k (fun k_ => w5.heap.size ≤ k_ ∧ k_ < w6.heap.size) z0 _ y0 1 m10 q0 w _ HB.out Sx0.out FK0.out).mono ?_
 rintro e w14 ⟨rfl, ho, hb, hk⟩
 clear hz_P0_0_0 hz_P0_1_1 hz_W_0_2 hz_W_1_3 hz_X0_0_4 hz_X0_1_5 hz_G_0_6 hz_G_1_7
 have HBn := Aside0.mk hb
 have HK := Aside0.mk hk
 have SM := Aside0.mk ho
 clear ho hb hk
 have n_ := Aside0.mk (blk_kept KP0.out HK.out (fun hs_ => by obtain ⟨x1_, x2_⟩ := hs_; have := Z0.out; have := Z1.out; have := Z2.out; have := Z3.out; have := Z4.out; have := Z5.out; have := Z6.out; have := Z7.out; have := Z8.out; have := Z9.out; have := Z10.out; have := Z11.out; have := Z12.out; have := Z13.out; have := Z14.out; have := Z15.out; have := Z16.out; omega))
 clear KP0
 have KP0 := n_
 clear n_
 have n_ := Aside0.mk (blk_kept KW.out HK.out (fun hs_ => by obtain ⟨x1_, x2_⟩ := hs_; have := Z0.out; have := Z1.out; have := Z2.out; have := Z3.out; have := Z4.out; have := Z5.out; have := Z6.out; have := Z7.out; have := Z8.out; have := Z9.out; have := Z10.out; have := Z11.out; have := Z12.out; have := Z13.out; have := Z14.out; have := Z15.out; have := Z16.out; omega))
 clear KW
 have KW := n_
 clear n_
 have n_ := Aside0.mk (blk_kept KX0.out HK.out (fun hs_ => by obtain ⟨x1_, x2_⟩ := hs_; have := Z0.out; have := Z1.out; have := Z2.out; have := Z3.out; have := Z4.out; have := Z5.out; have := Z6.out; have := Z7.out; have := Z8.out; have := Z9.out; have := Z10.out; have := Z11.out; have := Z12.out; have := Z13.out; have := Z14.out; have := Z15.out; have := Z16.out; omega))
 clear KX0
 have KX0 := n_
 clear n_
 have n_ := Aside0.mk (blk_kept KG.out HK.out (fun hs_ => by obtain ⟨x1_, x2_⟩ := hs_; have := Z0.out; have := Z1.out; have := Z2.out; have := Z3.out; have := Z4.out; have := Z5.out; have := Z6.out; have := Z7.out; have := Z8.out; have := Z9.out; have := Z10.out; have := Z11.out; have := Z12.out; have := Z13.out; have := Z14.out; have := Z15.out; have := Z16.out; omega))
 clear KG
 have KG := n_
 clear n_
 have n_ := Aside0.mk (Kd.S_kept SW.out HK.out (fun k_ h1_ h2_ => by obtain ⟨x1_, x2_⟩ := h1_; obtain ⟨x3_, x4_⟩ := h2_; have := Z0.out; have := Z1.out; have := Z2.out; have := Z3.out; have := Z4.out; have := Z5.out; have := Z6.out; have := Z7.out; have := Z8.out; have := Z9.out; have := Z10.out; have := Z11.out; have := Z12.out; have := Z13.out; have := Z14.out; have := Z15.out; have := Z16.out; omega))
 clear SW
 have SW := n_
 clear n_
 have n_ := Aside0.mk (Kd.S_kept Sg.out HK.out (fun k_ h1_ h2_ => by obtain ⟨x1_, x2_⟩ := h1_; obtain ⟨x3_, x4_⟩ := h2_; have := Z0.out; have := Z1.out; have := Z2.out; have := Z3.out; have := Z4.out; have := Z5.out; have := Z6.out; have := Z7.out; have := Z8.out; have := Z9.out; have := Z10.out; have := Z11.out; have := Z12.out; have := Z13.out; have := Z14.out; have := Z15.out; have := Z16.out; omega))
 clear Sg
 have Sg := n_
 clear n_
 clear HB
 have HB := HBn
 clear HBn
 have Z17 := Aside0.mk HK.out.1
 clear HK Sx0
 clear SM
 have hz_P0_0_0 : w14.cell? ⟨w.heap.size, 0, none⟩ = some (.int .i64 z0) := (blk_cell (KP0.out) 0).trans rfl
 have hz_P0_1_1 : w14.cell? ⟨w.heap.size, 1, none⟩ = some (.slice A0 l0.length c0) := (blk_cell (KP0.out) 1).trans rfl
 have hz_W_0_2 : w14.cell? ⟨w4.heap.size, 0, none⟩ = some (.int .i64 g0) := (blk_cell (KW.out) 0).trans rfl
 have hz_W_1_3 : w14.cell? ⟨w4.heap.size, 1, none⟩ = some (.slice AW g1.length cW) := (blk_cell (KW.out) 1).trans rfl
 have hz_X0_0_4 : w14.cell? ⟨w6.heap.size, 0, none⟩ = some (.int .i64 z0) := (blk_cell (KX0.out) 0).trans rfl
 have hz_X0_1_5 : w14.cell? ⟨w6.heap.size, 1, none⟩ = some (.slice Ax0 y0.length cx0) := (blk_cell (KX0.out) 1).trans rfl
 have hz_G_0_6 : w14.cell? ⟨w8.heap.size, 0, none⟩ = some (.int .i64 g0) := (blk_cell (KG.out) 0).trans rfl
 have hz_G_1_7 : w14.cell? ⟨w8.heap.size, 1, none⟩ = some (.slice Ag g1.length cg) := (blk_cell (KG.out) 1).trans rfl
 go_wp2_with fail
 refine (laws_eqSum.calls k g0 _ _ g1 g0 _ _ g1 true _ (Kd.S_reads' Sg.out).2.2 (Kd.S_reads' Sg.out).2.1 (Kd.S_reads' SW.out).2.2 (Kd.S_reads' SW.out).2.1 FE.out).mono ?_
 rintro e w15 ⟨rfl, hb⟩
 clear hz_P0_0_0 hz_P0_1_1 hz_W_0_2 hz_W_1_3 hz_X0_0_4 hz_X0_1_5 hz_G_0_6 hz_G_1_7
 have B_ := Aside0.mk hb
 clear hb
 have n_ := Aside0.mk (blk_below KP0.out B_.out)
 clear KP0
 have KP0 := n_
 clear n_
 have n_ := Aside0.mk (blk_below KW.out B_.out)
 clear KW
 have KW := n_
 clear n_
 have n_ := Aside0.mk (blk_below KX0.out B_.out)
 clear KX0
 have KX0 := n_
 clear n_
 have n_ := Aside0.mk (blk_below KG.out B_.out)
 clear KG
 have KG := n_
 clear n_
 have n_ := Aside0.mk (Kd.S_below SW.out B_.out)
 clear SW
 have SW := n_
 clear n_
 have n_ := Aside0.mk (Kd.S_below Sg.out B_.out)
 clear Sg
 have Sg := n_
 clear n_
 have n_ := Aside0.mk (below_step HB.out B_.out)
 clear HB
 have HB := n_
 clear n_
 have Z18 := Aside0.mk (B_.out).size
 clear B_
 have hz_P0_0_0 : w15.cell? ⟨w.heap.size, 0, none⟩ = some (.int .i64 z0) := (blk_cell (KP0.out) 0).trans rfl
 have hz_P0_1_1 : w15.cell? ⟨w.heap.size, 1, none⟩ = some (.slice A0 l0.length c0) := (blk_cell (KP0.out) 1).trans rfl
 have hz_W_0_2 : w15.cell? ⟨w4.heap.size, 0, none⟩ = some (.int .i64 g0) := (blk_cell (KW.out) 0).trans rfl
 have hz_W_1_3 : w15.cell? ⟨w4.heap.size, 1, none⟩ = some (.slice AW g1.length cW) := (blk_cell (KW.out) 1).trans rfl
 have hz_X0_0_4 : w15.cell? ⟨w6.heap.size, 0, none⟩ = some (.int .i64 z0) := (blk_cell (KX0.out) 0).trans rfl
 have hz_X0_1_5 : w15.cell? ⟨w6.heap.size, 1, none⟩ = some (.slice Ax0 y0.length cx0) := (blk_cell (KX0.out) 1).trans rfl
 have hz_G_0_6 : w15.cell? ⟨w8.heap.size, 0, none⟩ = some (.int .i64 g0) := (blk_cell (KG.out) 0).trans rfl
 have hz_G_1_7 : w15.cell? ⟨w8.heap.size, 1, none⟩ = some (.slice Ag g1.length cg) := (blk_cell (KG.out) 1).trans rfl
 go_wp2_with fail
 refine (laws_markSum.calls k (fun k_ => w7.heap.size ≤ k_ ∧ k_ < w8.heap.size) g0 _ g1 1 m p1 w _ HB.out Sg.out FM.out).mono ?_
 rintro e w16 ⟨rfl, ho, hb, hk⟩
 clear hz_P0_0_0 hz_P0_1_1 hz_W_0_2 hz_W_1_3 hz_X0_0_4 hz_X0_1_5 hz_G_0_6 hz_G_1_7
 have HBn := Aside0.mk hb
 have HK := Aside0.mk hk
 have SM := Aside0.mk ho
 clear ho hb hk
 have n_ := Aside0.mk (blk_kept KP0.out HK.out (fun hs_ => by obtain ⟨x1_, x2_⟩ := hs_; have := Z0.out; have := Z1.out; have := Z2.out; have := Z3.out; have := Z4.out; have := Z5.out; have := Z6.out; have := Z7.out; have := Z8.out; have := Z9.out; have := Z10.out; have := Z11.out; have := Z12.out; have := Z13.out; have := Z14.out; have := Z15.out; have := Z16.out; have := Z17.out; have := Z18.out; omega))
 clear KP0
 have KP0 := n_
 clear n_
 have n_ := Aside0.mk (blk_kept KW.out HK.out (fun hs_ => by obtain ⟨x1_, x2_⟩ := hs_; have := Z0.out; have := Z1.out; have := Z2.out; have := Z3.out; have := Z4.out; have := Z5.out; have := Z6.out; have := Z7.out; have := Z8.out; have := Z9.out; have := Z10.out; have := Z11.out; have := Z12.out; have := Z13.out; have := Z14.out; have := Z15.out; have := Z16.out; have := Z17.out; have := Z18.out; omega))
 clear KW
 have KW := n_
 clear n_
 have n_ := Aside0.mk (blk_kept KX0.out HK.out (fun hs_ => by obtain ⟨x1_, x2_⟩ := hs_; have := Z0.out; have := Z1.out; have := Z2.out; have := Z3.out; have := Z4.out; have := Z5.out; have := Z6.out; have := Z7.out; have := Z8.out; have := Z9.out; have := Z10.out; have := Z11.out; have := Z12.out; have := Z13.out; have := Z14.out; have := Z15.out; have := Z16.out; have := Z17.out; have := Z18.out; omega))
 clear KX0
 have KX0 := n_
 clear n_
 have n_ := Aside0.mk (blk_kept KG.out HK.out (fun hs_ => by obtain ⟨x1_, x2_⟩ := hs_; have := Z0.out; have := Z1.out; have := Z2.out; have := Z3.out; have := Z4.out; have := Z5.out; have := Z6.out; have := Z7.out; have := Z8.out; have := Z9.out; have := Z10.out; have := Z11.out; have := Z12.out; have := Z13.out; have := Z14.out; have := Z15.out; have := Z16.out; have := Z17.out; have := Z18.out; omega))
 clear KG
 have KG := n_
 clear n_
 have n_ := Aside0.mk (Kd.S_kept SW.out HK.out (fun k_ h1_ h2_ => by obtain ⟨x1_, x2_⟩ := h1_; obtain ⟨x3_, x4_⟩ := h2_; have := Z0.out; have := Z1.out; have := Z2.out; have := Z3.out; have := Z4.out; have := Z5.out; have := Z6.out; have := Z7.out; have := Z8.out; have := Z9.out; have := Z10.out; have := Z11.out; have := Z12.out; have := Z13.out; have := Z14.out; have := Z15.out; have := Z16.out; have := Z17.out; have := Z18.out; omega))
 clear SW
 have SW := n_
 clear n_
 clear HB
 have HB := HBn
 clear HBn
 have Z19 := Aside0.mk HK.out.1
 clear HK Sg
 have SM1 := SM
 clear SM
 have hz_P0_0_0 : w16.cell? ⟨w.heap.size, 0, none⟩ = some (.int .i64 z0) := (blk_cell (KP0.out) 0).trans rfl
 have hz_P0_1_1 : w16.cell? ⟨w.heap.size, 1, none⟩ = some (.slice A0 l0.length c0) := (blk_cell (KP0.out) 1).trans rfl
 have hz_W_0_2 : w16.cell? ⟨w4.heap.size, 0, none⟩ = some (.int .i64 g0) := (blk_cell (KW.out) 0).trans rfl
 have hz_W_1_3 : w16.cell? ⟨w4.heap.size, 1, none⟩ = some (.slice AW g1.length cW) := (blk_cell (KW.out) 1).trans rfl
 have hz_X0_0_4 : w16.cell? ⟨w6.heap.size, 0, none⟩ = some (.int .i64 z0) := (blk_cell (KX0.out) 0).trans rfl
 have hz_X0_1_5 : w16.cell? ⟨w6.heap.size, 1, none⟩ = some (.slice Ax0 y0.length cx0) := (blk_cell (KX0.out) 1).trans rfl
 have hz_G_0_6 : w16.cell? ⟨w8.heap.size, 0, none⟩ = some (.int .i64 g0) := (blk_cell (KG.out) 0).trans rfl
 have hz_G_1_7 : w16.cell? ⟨w8.heap.size, 1, none⟩ = some (.slice Ag g1.length cg) := (blk_cell (KG.out) 1).trans rfl
 go_wp2_with fail
 have e_ := (Kd.S_reads' SM1.out).1
 have hh_ := laws_heldSum.calls k g0 _ _ p1 1 m _ (Kd.S_reads' SM1.out).2.2 (by rw [← e_]; exact (Kd.S_reads' SM1.out).2.1) FH.out
 rw [← e_] at hh_
 clear e_
 refine hh_.mono ?_
 clear hh_
 rintro e w17 ⟨rfl, hb⟩
 clear hz_P0_0_0 hz_P0_1_1 hz_W_0_2 hz_W_1_3 hz_X0_0_4 hz_X0_1_5 hz_G_0_6 hz_G_1_7
 have B_ := Aside0.mk hb
 clear hb
 have n_ := Aside0.mk (blk_below KP0.out B_.out)
 clear KP0
 have KP0 := n_
 clear n_
 have n_ := Aside0.mk (blk_below KW.out B_.out)
 clear KW
 have KW := n_
 clear n_
 have n_ := Aside0.mk (blk_below KX0.out B_.out)
 clear KX0
 have KX0 := n_
 clear n_
 have n_ := Aside0.mk (blk_below KG.out B_.out)
 clear KG
 have KG := n_
 clear n_
 have n_ := Aside0.mk (Kd.S_below SW.out B_.out)
 clear SW
 have SW := n_
 clear n_
 have n_ := Aside0.mk (Kd.S_below SM1.out B_.out)
 clear SM1
 have SM1 := n_
 clear n_
 have n_ := Aside0.mk (below_step HB.out B_.out)
 clear HB
 have HB := n_
 clear n_
 have Z20 := Aside0.mk (B_.out).size
 clear B_
 have hz_P0_0_0 : w17.cell? ⟨w.heap.size, 0, none⟩ = some (.int .i64 z0) := (blk_cell (KP0.out) 0).trans rfl
 have hz_P0_1_1 : w17.cell? ⟨w.heap.size, 1, none⟩ = some (.slice A0 l0.length c0) := (blk_cell (KP0.out) 1).trans rfl
 have hz_W_0_2 : w17.cell? ⟨w4.heap.size, 0, none⟩ = some (.int .i64 g0) := (blk_cell (KW.out) 0).trans rfl
 have hz_W_1_3 : w17.cell? ⟨w4.heap.size, 1, none⟩ = some (.slice AW g1.length cW) := (blk_cell (KW.out) 1).trans rfl
 have hz_X0_0_4 : w17.cell? ⟨w6.heap.size, 0, none⟩ = some (.int .i64 z0) := (blk_cell (KX0.out) 0).trans rfl
 have hz_X0_1_5 : w17.cell? ⟨w6.heap.size, 1, none⟩ = some (.slice Ax0 y0.length cx0) := (blk_cell (KX0.out) 1).trans rfl
 have hz_G_0_6 : w17.cell? ⟨w8.heap.size, 0, none⟩ = some (.int .i64 g0) := (blk_cell (KG.out) 0).trans rfl
 have hz_G_1_7 : w17.cell? ⟨w8.heap.size, 1, none⟩ = some (.slice Ag g1.length cg) := (blk_cell (KG.out) 1).trans rfl
 go_wp2_with fail
 refine (laws_toSum.calls k z0 _ _ l0 z0 y0 _ (Kd.C_below HA0.out HB.out) HC0.out FT0.out).mono ?_
 rintro e w18 ⟨v_, rfl, ho, hb⟩
 clear hz_P0_0_0 hz_P0_1_1 hz_W_0_2 hz_W_1_3 hz_X0_0_4 hz_X0_1_5 hz_G_0_6 hz_G_1_7
 have Sh0_ := Aside0.mk (laws_FnExactRotateSum.range ho HB.out.size)
 have B_ := Aside0.mk hb
 clear ho hb
 have n_ := Aside0.mk (blk_below KP0.out B_.out)
 clear KP0
 have KP0 := n_
 clear n_
 have n_ := Aside0.mk (blk_below KW.out B_.out)
 clear KW
 have KW := n_
 clear n_
 have n_ := Aside0.mk (blk_below KX0.out B_.out)
 clear KX0
 have KX0 := n_
 clear n_
 have n_ := Aside0.mk (blk_below KG.out B_.out)
 clear KG
 have KG := n_
 clear n_
 have n_ := Aside0.mk (Kd.S_below SW.out B_.out)
 clear SW
 have SW := n_
 clear n_
 have n_ := Aside0.mk (Kd.S_below SM1.out B_.out)
 clear SM1
 have SM1 := n_
 clear n_
 have n_ := Aside0.mk (below_step HB.out B_.out)
 clear HB
 have HB := n_
 clear n_
 have Z21 := Aside0.mk (B_.out).size
 clear B_
 have Sh0 := Sh0_
 clear Sh0_
 obtain ⟨Ah0, ch0, e_⟩ := Kd.S_slice Sh0.out
 subst e_
 have hz_P0_0_0 : w18.cell? ⟨w.heap.size, 0, none⟩ = some (.int .i64 z0) := (blk_cell (KP0.out) 0).trans rfl
 have hz_P0_1_1 : w18.cell? ⟨w.heap.size, 1, none⟩ = some (.slice A0 l0.length c0) := (blk_cell (KP0.out) 1).trans rfl
 have hz_W_0_2 : w18.cell? ⟨w4.heap.size, 0, none⟩ = some (.int .i64 g0) := (blk_cell (KW.out) 0).trans rfl
 have hz_W_1_3 : w18.cell? ⟨w4.heap.size, 1, none⟩ = some (.slice AW g1.length cW) := (blk_cell (KW.out) 1).trans rfl
 have hz_X0_0_4 : w18.cell? ⟨w6.heap.size, 0, none⟩ = some (.int .i64 z0) := (blk_cell (KX0.out) 0).trans rfl
 have hz_X0_1_5 : w18.cell? ⟨w6.heap.size, 1, none⟩ = some (.slice Ax0 y0.length cx0) := (blk_cell (KX0.out) 1).trans rfl
 have hz_G_0_6 : w18.cell? ⟨w8.heap.size, 0, none⟩ = some (.int .i64 g0) := (blk_cell (KG.out) 0).trans rfl
 have hz_G_1_7 : w18.cell? ⟨w8.heap.size, 1, none⟩ = some (.slice Ag g1.length cg) := (blk_cell (KG.out) 1).trans rfl
 go_wp2_with fail
 refine (impl_RotateSum.calls k z0 _ _ y0 i1 g0 g1 c _ (Kd.S_reads' Sh0.out).2.2 (Kd.S_reads' Sh0.out).2.1 FI.out).mono ?_
 rintro e w19 ⟨v_, rfl, ho, hb⟩
 clear hz_P0_0_0 hz_P0_1_1 hz_W_0_2 hz_W_1_3 hz_X0_0_4 hz_X0_1_5 hz_G_0_6 hz_G_1_7
 have Sy_ := Aside0.mk (laws_FnExactRotateSum.range ho HB.out.size)
 have B_ := Aside0.mk hb
 clear ho hb
 have n_ := Aside0.mk (blk_below KP0.out B_.out)
 clear KP0
 have KP0 := n_
 clear n_
 have n_ := Aside0.mk (blk_below KW.out B_.out)
 clear KW
 have KW := n_
 clear n_
 have n_ := Aside0.mk (blk_below KX0.out B_.out)
 clear KX0
 have KX0 := n_
 clear n_
 have n_ := Aside0.mk (blk_below KG.out B_.out)
 clear KG
 have KG := n_
 clear n_
 have n_ := Aside0.mk (Kd.S_below SW.out B_.out)
 clear SW
 have SW := n_
 clear n_
 have n_ := Aside0.mk (Kd.S_below SM1.out B_.out)
 clear SM1
 have SM1 := n_
 clear n_
 have n_ := Aside0.mk (Kd.S_below Sh0.out B_.out)
 clear Sh0
 have Sh0 := n_
 clear n_
 have n_ := Aside0.mk (below_step HB.out B_.out)
 clear HB
 have HB := n_
 clear n_
 have Z22 := Aside0.mk (B_.out).size
 clear B_
 have Sy := Sy_
 clear Sy_
 obtain ⟨Ay, cy, e_⟩ := Kd.S_slice Sy.out
 subst e_
 clear Sh0
 have hz_P0_0_0 : w19.cell? ⟨w.heap.size, 0, none⟩ = some (.int .i64 z0) := (blk_cell (KP0.out) 0).trans rfl
 have hz_P0_1_1 : w19.cell? ⟨w.heap.size, 1, none⟩ = some (.slice A0 l0.length c0) := (blk_cell (KP0.out) 1).trans rfl
 have hz_W_0_2 : w19.cell? ⟨w4.heap.size, 0, none⟩ = some (.int .i64 g0) := (blk_cell (KW.out) 0).trans rfl
 have hz_W_1_3 : w19.cell? ⟨w4.heap.size, 1, none⟩ = some (.slice AW g1.length cW) := (blk_cell (KW.out) 1).trans rfl
 have hz_X0_0_4 : w19.cell? ⟨w6.heap.size, 0, none⟩ = some (.int .i64 z0) := (blk_cell (KX0.out) 0).trans rfl
 have hz_X0_1_5 : w19.cell? ⟨w6.heap.size, 1, none⟩ = some (.slice Ax0 y0.length cx0) := (blk_cell (KX0.out) 1).trans rfl
 have hz_G_0_6 : w19.cell? ⟨w8.heap.size, 0, none⟩ = some (.int .i64 g0) := (blk_cell (KG.out) 0).trans rfl
 have hz_G_1_7 : w19.cell? ⟨w8.heap.size, 1, none⟩ = some (.slice Ag g1.length cg) := (blk_cell (KG.out) 1).trans rfl
 have ha0_P0_0 : (w19.alloc (.cells #[.int .i64 g0, .slice Ay g1.length cy] 49)).cell? ⟨w.heap.size, 0, none⟩ = some (.int .i64 z0) := (blk_cell (blk_alloc (KP0.out) _) 0).trans rfl
 have ha0_P0_1 : (w19.alloc (.cells #[.int .i64 g0, .slice Ay g1.length cy] 49)).cell? ⟨w.heap.size, 1, none⟩ = some (.slice A0 l0.length c0) := (blk_cell (blk_alloc (KP0.out) _) 1).trans rfl
 have ha0_W_0 : (w19.alloc (.cells #[.int .i64 g0, .slice Ay g1.length cy] 49)).cell? ⟨w4.heap.size, 0, none⟩ = some (.int .i64 g0) := (blk_cell (blk_alloc (KW.out) _) 0).trans rfl
 have ha0_W_1 : (w19.alloc (.cells #[.int .i64 g0, .slice Ay g1.length cy] 49)).cell? ⟨w4.heap.size, 1, none⟩ = some (.slice AW g1.length cW) := (blk_cell (blk_alloc (KW.out) _) 1).trans rfl
 have ha0_X0_0 : (w19.alloc (.cells #[.int .i64 g0, .slice Ay g1.length cy] 49)).cell? ⟨w6.heap.size, 0, none⟩ = some (.int .i64 z0) := (blk_cell (blk_alloc (KX0.out) _) 0).trans rfl
 have ha0_X0_1 : (w19.alloc (.cells #[.int .i64 g0, .slice Ay g1.length cy] 49)).cell? ⟨w6.heap.size, 1, none⟩ = some (.slice Ax0 y0.length cx0) := (blk_cell (blk_alloc (KX0.out) _) 1).trans rfl
 have ha0_G_0 : (w19.alloc (.cells #[.int .i64 g0, .slice Ay g1.length cy] 49)).cell? ⟨w8.heap.size, 0, none⟩ = some (.int .i64 g0) := (blk_cell (blk_alloc (KG.out) _) 0).trans rfl
 have ha0_G_1 : (w19.alloc (.cells #[.int .i64 g0, .slice Ay g1.length cy] 49)).cell? ⟨w8.heap.size, 1, none⟩ = some (.slice Ag g1.length cg) := (blk_cell (blk_alloc (KG.out) _) 1).trans rfl
 have hn_Y_0 : (w19.alloc (.cells #[.int .i64 g0, .slice Ay g1.length cy] 49)).cell? ⟨w19.heap.size, 0, none⟩ = some (.int .i64 g0) := (blk_cell (blk_new w19 (.cells #[.int .i64 g0, .slice Ay g1.length cy] 49)) 0).trans rfl
 have hn_Y_1 : (w19.alloc (.cells #[.int .i64 g0, .slice Ay g1.length cy] 49)).cell? ⟨w19.heap.size, 1, none⟩ = some (.slice Ay g1.length cy) := (blk_cell (blk_new w19 (.cells #[.int .i64 g0, .slice Ay g1.length cy] 49)) 1).trans rfl
 go_wp2_with fail
 obtain ⟨w20, h_⟩ : ∃ x_ : World, w19.alloc (.cells #[.int .i64 g0, .slice Ay g1.length cy] 49) = x_ := ⟨_, rfl⟩
 rw [h_]
 have B_ : Aside0 (Below w19.heap.size w19 w20) := ⟨by rw [← h_]; exact below_alloc (Below.refl _ _) _⟩
 have KY : Aside0 (w20.heap[w19.heap.size]? = some (.cells #[.int .i64 g0, .slice Ay g1.length cy] 49 (0, 0))) := ⟨by rw [← h_]; exact blk_new _ _⟩
 clear h_
 have n_ := Aside0.mk (blk_below KP0.out B_.out)
 clear KP0
 have KP0 := n_
 clear n_
 have n_ := Aside0.mk (blk_below KW.out B_.out)
 clear KW
 have KW := n_
 clear n_
 have n_ := Aside0.mk (blk_below KX0.out B_.out)
 clear KX0
 have KX0 := n_
 clear n_
 have n_ := Aside0.mk (blk_below KG.out B_.out)
 clear KG
 have KG := n_
 clear n_
 have n_ := Aside0.mk (Kd.S_below SW.out B_.out)
 clear SW
 have SW := n_
 clear n_
 have n_ := Aside0.mk (Kd.S_below SM1.out B_.out)
 clear SM1
 have SM1 := n_
 clear n_
 have n_ := Aside0.mk (Kd.S_below Sy.out B_.out)
 clear Sy
 have Sy := n_
 clear n_
 have n_ := Aside0.mk (below_step HB.out B_.out)
 clear HB
 have HB := n_
 clear n_
 have Z23 := Aside0.mk (B_.out).size
 clear B_
 have Z24 := Aside0.mk (blk_lt KY.out)
 refine (laws_eqSum.calls k g0 _ _ g1 g0 _ _ g1 true _ (Kd.S_reads' Sy.out).2.2 (Kd.S_reads' Sy.out).2.1 (Kd.S_reads' SW.out).2.2 (Kd.S_reads' SW.out).2.1 FE.out).mono ?_
 rintro e w21 ⟨rfl, hb⟩
 clear hz_P0_0_0 hz_P0_1_1 hz_W_0_2 hz_W_1_3 hz_X0_0_4 hz_X0_1_5 hz_G_0_6 hz_G_1_7 ha0_P0_0 ha0_P0_1 ha0_W_0 ha0_W_1 ha0_X0_0 ha0_X0_1 ha0_G_0 ha0_G_1 hn_Y_0 hn_Y_1
 have B_ := Aside0.mk hb
 clear hb
 have n_ := Aside0.mk (blk_below KP0.out B_.out)
 clear KP0
 have KP0 := n_
 clear n_
 have n_ := Aside0.mk (blk_below KW.out B_.out)
 clear KW
 have KW := n_
 clear n_
 have n_ := Aside0.mk (blk_below KX0.out B_.out)
 clear KX0
 have KX0 := n_
 clear n_
 have n_ := Aside0.mk (blk_below KG.out B_.out)
 clear KG
 have KG := n_
 clear n_
 have n_ := Aside0.mk (blk_below KY.out B_.out)
 clear KY
 have KY := n_
 clear n_
 have n_ := Aside0.mk (Kd.S_below SW.out B_.out)
 clear SW
 have SW := n_
 clear n_
 have n_ := Aside0.mk (Kd.S_below SM1.out B_.out)
 clear SM1
 have SM1 := n_
 clear n_
 have n_ := Aside0.mk (Kd.S_below Sy.out B_.out)
 clear Sy
 have Sy := n_
 clear n_
 have n_ := Aside0.mk (below_step HB.out B_.out)
 clear HB
 have HB := n_
 clear n_
 have Z25 := Aside0.mk (B_.out).size
 clear B_
 have hz_P0_0_0 : w21.cell? ⟨w.heap.size, 0, none⟩ = some (.int .i64 z0) := (blk_cell (KP0.out) 0).trans rfl
 have hz_P0_1_1 : w21.cell? ⟨w.heap.size, 1, none⟩ = some (.slice A0 l0.length c0) := (blk_cell (KP0.out) 1).trans rfl
 have hz_W_0_2 : w21.cell? ⟨w4.heap.size, 0, none⟩ = some (.int .i64 g0) := (blk_cell (KW.out) 0).trans rfl
 have hz_W_1_3 : w21.cell? ⟨w4.heap.size, 1, none⟩ = some (.slice AW g1.length cW) := (blk_cell (KW.out) 1).trans rfl
 have hz_X0_0_4 : w21.cell? ⟨w6.heap.size, 0, none⟩ = some (.int .i64 z0) := (blk_cell (KX0.out) 0).trans rfl
 have hz_X0_1_5 : w21.cell? ⟨w6.heap.size, 1, none⟩ = some (.slice Ax0 y0.length cx0) := (blk_cell (KX0.out) 1).trans rfl
 have hz_G_0_6 : w21.cell? ⟨w8.heap.size, 0, none⟩ = some (.int .i64 g0) := (blk_cell (KG.out) 0).trans rfl
 have hz_G_1_7 : w21.cell? ⟨w8.heap.size, 1, none⟩ = some (.slice Ag g1.length cg) := (blk_cell (KG.out) 1).trans rfl
 have hz_Y_0_8 : w21.cell? ⟨w19.heap.size, 0, none⟩ = some (.int .i64 g0) := (blk_cell (KY.out) 0).trans rfl
 have hz_Y_1_9 : w21.cell? ⟨w19.heap.size, 1, none⟩ = some (.slice Ay g1.length cy) := (blk_cell (KY.out) 1).trans rfl
 go_wp2_with fail
 have e_ := (Kd.S_reads' SM1.out).1
 have hh_ := laws_heldSum.calls k g0 _ _ p1 1 m _ (Kd.S_reads' SM1.out).2.2 (by rw [← e_]; exact (Kd.S_reads' SM1.out).2.1) FH.out
 rw [← e_] at hh_
 clear e_
 refine hh_.mono ?_
 clear hh_
 rintro e w22 ⟨rfl, hb⟩
 clear hz_P0_0_0 hz_P0_1_1 hz_W_0_2 hz_W_1_3 hz_X0_0_4 hz_X0_1_5 hz_G_0_6 hz_G_1_7 hz_Y_0_8 hz_Y_1_9
 have B_ := Aside0.mk hb
 clear hb
 have n_ := Aside0.mk (blk_below KP0.out B_.out)
 clear KP0
 have KP0 := n_
 clear n_
 have n_ := Aside0.mk (blk_below KW.out B_.out)
 clear KW
 have KW := n_
 clear n_
 have n_ := Aside0.mk (blk_below KX0.out B_.out)
 clear KX0
 have KX0 := n_
 clear n_
 have n_ := Aside0.mk (blk_below KG.out B_.out)
 clear KG
 have KG := n_
 clear n_
 have n_ := Aside0.mk (blk_below KY.out B_.out)
 clear KY
 have KY := n_
 clear n_
 have n_ := Aside0.mk (Kd.S_below SW.out B_.out)
 clear SW
 have SW := n_
 clear n_
 have n_ := Aside0.mk (Kd.S_below SM1.out B_.out)
 clear SM1
 have SM1 := n_
 clear n_
 have n_ := Aside0.mk (Kd.S_below Sy.out B_.out)
 clear Sy
 have Sy := n_
 clear n_
 have n_ := Aside0.mk (below_step HB.out B_.out)
 clear HB
 have HB := n_
 clear n_
 have Z26 := Aside0.mk (B_.out).size
 clear B_
 go_wp2
 go_ret
 exact ⟨rfl, HB.out⟩
def laws_FnExactRotateSum.Pure : Prop := ∀ (z0 : Int) (l0 : List S110) (i1 : Int), (Lit.int .i64 z0).wf = true → l0.length ≤ 9223372036854775807 → (∀ y ∈ l0, y.f0.length ≤ maxLen ∧ (∀ n ∈ y.f0, (Lit.int .i64 n).wf = true) ∧ (Lit.int .i64 y.f1).wf = true) → (Lit.int .i64 i1).wf = true → (∃ k s, laws_szSum.f k z0 l0 1048576 = some s ∧ s < 0) ∨ ∃ k c m g0 g1 p1 s0 m10 y0 q0, laws_FnExactRotateSum.Told z0 l0 i1 k c m g0 g1 p1 s0 m10 y0 q0
set_option maxHeartbeats 4000000 in
set_option maxRecDepth 100000 in
theorem laws_FnExactRotateSum.early (A0 : Option Addr) (c0 : Nat) (z0 : Int) (l0 : List S110) (i1 : Int) (w : World) (hr0 : Kd.C k110 w A0 l0.length l0) (hc0 : l0.length ≤ c0) (k : Nat) (s : Int) (hFZ : laws_szSum.f k z0 l0 1048576 = some s) (hs : s < 0) :
  Calls Try.prog 14 #[.agg #[.int .i64 z0, .slice A0 l0.length c0], .int .i64 i1] w fun e w' => e = .returned (.bool true) ∧ Below w.heap.size w w' := by
 have huA := Try.underlying44
 have HB0 := Aside0.mk (below_alloc (Below.refl w.heap.size w) (.cells #[.int .i64 z0, .slice A0 l0.length c0] 44))
 have hz0_0 : (w.alloc (.cells #[.int .i64 z0, .slice A0 l0.length c0] 44)).cell? ⟨w.heap.size, 0, none⟩ = some (.int .i64 z0) := (blk_cell (blk_new w (.cells #[.int .i64 z0, .slice A0 l0.length c0] 44)) 0).trans rfl
 have hz0_1 : (w.alloc (.cells #[.int .i64 z0, .slice A0 l0.length c0] 44)).cell? ⟨w.heap.size, 1, none⟩ = some (.slice A0 l0.length c0) := (blk_cell (blk_new w (.cells #[.int .i64 z0, .slice A0 l0.length c0] 44)) 1).trans rfl
 have FZ := Aside0.mk hFZ
 clear hFZ
 have HA0 := Aside0.mk (Kd.C_below hr0 HB0.out)
 have HC0 := Aside0.mk hc0
 clear hr0 hc0
 have ds : decide (s < 0) = true := decide_eq_true hs
 clear hs
 go_enter Try.func14, Try.ntmps14
 go_wp2_with fail
 refine (laws_szSum.calls k z0 _ _ l0 1048576 s _ HA0.out HC0.out FZ.out).mono ?_
 rintro e w2 ⟨rfl, hb⟩
 have HB2 := Aside0.mk (below_step HB0.out hb)
 clear hb
 go_wp2
 go_ret
 exact ⟨rfl, HB2.out⟩
theorem laws_FnExactRotateSum.walk (P : laws_FnExactRotateSum.Pure) (A0 : Option Addr) (c0 : Nat) (z0 : Int) (l0 : List S110) (i1 : Int) (w : World) (hr0 : Kd.C k110 w A0 l0.length l0) (hc0 : l0.length ≤ c0) (wz0 : (Lit.int .i64 z0).wf = true) (hg0 : ∀ y ∈ l0, y.f0.length ≤ maxLen ∧ (∀ n ∈ y.f0, (Lit.int .i64 n).wf = true) ∧ (Lit.int .i64 y.f1).wf = true) (wi1 : (Lit.int .i64 i1).wf = true) :
  Calls Try.prog 14 #[.agg #[.int .i64 z0, .slice A0 l0.length c0], .int .i64 i1] w fun e w' => e = .returned (.bool true) ∧ Below w.heap.size w w' := by
 rcases P z0 l0 i1 wz0 hr0.2.1 hg0 wi1 with ⟨k, s, h1, h2⟩ | ⟨k, c, m, g0, g1, p1, s0, m10, y0, q0, h⟩
 ·exact laws_FnExactRotateSum.early _ _ z0 l0 i1 w hr0 hc0 k s h1 h2
 ·exact laws_FnExactRotateSum.one _ _ z0 l0 i1 w hr0 hc0 k c m g0 g1 p1 s0 m10 y0 q0 h

end Go.Proofs.Ytpfhbdpmafcnfaa.G
