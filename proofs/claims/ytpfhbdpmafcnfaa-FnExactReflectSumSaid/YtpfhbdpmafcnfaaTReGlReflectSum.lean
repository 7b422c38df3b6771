-- Written by the session's program mk.py (which runs the kit's print.py over functions and over contracts given by hand).
import Derived.Test.YtpfhbdpmafcnfaaTG0
import Derived.Test.YtpfhbdpmafcnfaaTG77
import Derived.Test.YtpfhbdpmafcnfaaTGgA
import Derived.Test.YtpfhbdpmafcnfaaTGgC
import Derived.Test.YtpfhbdpmafcnfaaTReGgD
import Derived.Test.YtpfhbdpmafcnfaaTReGgK
import Derived.Test.YtpfhbdpmafcnfaaTGgP
import Derived.Test.YtpfhbdpmafcnfaaTGgQ
import Derived.Test.YtpfhbdpmafcnfaaTReGgT
import Derived.Test.YtpfhbdpmafcnfaaTGgW
import Derived.Test.YtpfhbdpmafcnfaaTReGgZ
import Derived.Test.YtpfhbdpmafcnfaaTPlainA
namespace Go.Proofs.Ytpfhbdpmafcnfaa.G
open Go.RowKit Go.Maps Go.Proofs.YtpfhbdpmafcnfaaW.PrintWords Go.Proofs.YtpfhbdpmafcnfaaW.PrintLast Go.Proofs.YtpfhbdpmafcnfaaW.PrintMore
attribute [local go_sem] max2_int min2_int max_two min_two max_three min_three max_four min_four   -- for this text's walks alone
set_option linter.unusedVariables false
set_option linter.unusedSimpArgs false

open Go.Proofs.Ytpfhbdpmafcnfaa.Plain
/-! ### spec_ReflectSum: function 46 -/
def spec_ReflectSum.l0 : Nat → Int → Int → List (S89) → Int → List (S89) → Option (Int × (List (S89)) × Int)
 | 0, _, _, _, _, _ => none
 | k + 1, x5, x102000, x102001, x109000, x109001 => if x5 < (x102001.length : Int) then (if 0 ≤ x5 then ((spec_l01Reflect.f k ((rd_T89 x102001 x5).f0)).bind fun t110 => ((spec_l03Put.f k x109000 x109001 t110 ((rd_T89 x102001 x5).f1)).bind fun bt114 => (spec_ReflectSum.l0 k (wrap64 (x5 + 1)) x102000 x102001 bt114.1 bt114.2))) else (none)) else (some (x109000, x109001, 0))
def spec_ReflectSum.f (k : Nat) (a0_0 : Int) (l0_1 : List (S89)) : Option (Int × (List (S89)) × Int) := (spec_l03Is.f k a0_0 l0_1).bind fun t103 => (if t103 = true then ((spec_l03Empty.f a0_0).bind fun bt104 => (spec_ReflectSum.l0 k 0 a0_0 l0_1 bt104.1 bt104.2)) else (some (0, ([] : List (S89)), 1)))
def spec_ReflectSum.T7 : Bool × List (List Nat × List Nat) := (true, [([], []), ([], []), ([1], [1]), ([], []), ([2, 3], [2, 3]), ([4], [4]), ([5], [5]), ([6], [6]), ([], []), ([8], [8]), ([], []), ([9, 10], [9, 10]), ([11], [11]), ([12], [12]), ([0, 7, 13, 7], [0, 7, 13]), ([14, 14, 0, 1, 2, 3, 4, 5, 6, 7, 8, 9, 10, 11, 12, 13, 14], [14])])
def spec_ReflectSum.B7 : List Nat := [0, 0, 2, 0, 14, 30, 62, 126, 0, 256, 0, 1792, 3840, 7936, 16383, 32767]
theorem spec_ReflectSum.tab7 : rtab .any (opsOf Try.f46 7) = spec_ReflectSum.T7 := by kernel_rfl
theorem spec_ReflectSum.bits7 : waitsOk spec_ReflectSum.T7.2 spec_ReflectSum.B7 = true := by kernel_rfl
set_option maxHeartbeats 8000000 in
set_option maxRecDepth 100000 in
theorem spec_ReflectSum.calls (k : Nat) (a0_0 : Int) (A0_1 : Option Addr) (c0_1 : Nat) (l0_1 : List (S89)) (r1 : Int) (r2 : List (S89)) (r3 : Int) (w : World) (hr0_1 : Kd.C k89 w A0_1 l0_1.length l0_1) (hc0_1 : l0_1.length ≤ c0_1) (h : spec_ReflectSum.f k a0_0 l0_1 = some (r1, r2, r3)) :
  Calls Try.prog 46 #[.agg #[.int .i64 a0_0, .slice A0_1 l0_1.length c0_1]] w fun e w' => ∃ v1_ : Value, e = .returned (.tuple #[.agg #[.int .i64 r1, v1_], .int .i64 r3]) ∧ Kd.S k89 89 w' w.heap.size (fun _ => True) v1_ r2 ∧ Below w.heap.size w w' := by
 have hu49 := Try.underlying49
 have HR0_1 := Aside0.mk hr0_1
 have HC0_1 := Aside0.mk hc0_1
 clear hr0_1 hc0_1
 have HB := Aside0.mk (Below.refl w.heap.size w)
 have H : ((spec_l03Is.f k a0_0 l0_1).bind fun t103 => (if t103 = true then ((spec_l03Empty.f a0_0).bind fun bt104 => (spec_ReflectSum.l0 k 0 a0_0 l0_1 bt104.1 bt104.2)) else (some (0, ([] : List (S89)), 1)))) = some (r1, r2, r3) := h
 clear h
 replace H := Option.bind_eq_some_iff.mp H
 obtain ⟨t103, A20, H⟩ := H
 replace H : (if t103 = true then ((spec_l03Empty.f a0_0).bind fun bt104 => (spec_ReflectSum.l0 k 0 a0_0 l0_1 bt104.1 bt104.2)) else (some (0, ([] : List (S89)), 1))) = some (r1, r2, r3) := H
 have A2 := Aside0.mk A20
 clear A20
 by_cases c3 : t103 = true
 ·subst c3
  have H1 : ((spec_l03Empty.f a0_0).bind fun bt104 => (spec_ReflectSum.l0 k 0 a0_0 l0_1 bt104.1 bt104.2)) = some (r1, r2, r3) := by rw [if_pos rfl] at H; exact H
  clear H
  have H := H1
  clear H1
  replace H := Option.bind_eq_some_iff.mp H
  obtain ⟨⟨t104, t105⟩, A40, H⟩ := H
  replace H : (spec_ReflectSum.l0 k 0 a0_0 l0_1 t104 t105) = some (r1, r2, r3) := H
  have A4 := Aside0.mk A40
  clear A40
  have H' := Aside0.mk H
  clear H
  go_enter Try.func46, Try.ntmps46
  go_wp2_with (first | ((with_reducible refine gate_dst (N := 1) rfl ?_); refine box_event ?hg (N := 1) ?hd (cs := #[.int .i64 a0_0, .slice A0_1 l0_1.length c0_1]) (t := 49) ?hr ?_; (case hd => rfl); (case hg => rfl); (case hr => first | (go_simp; done) | (go_simp; rfl)); intro gb101 hg w5 hbox hb; have n0_ := Aside0.mk (below_step (by repeat (first | (with_reducible first | exact HB.out | apply below_alloc | apply pw_below_drewN | apply below_drew1) | exact HB.out)) hb); have n1_ := Aside0.mk (hbox); have n2_ := Aside0.mk ((by rw [hg]; exact (below_size (by repeat (first | (with_reducible first | exact HB.out | apply below_alloc | apply pw_below_drewN | apply below_drew1) | exact HB.out))) : w.heap.size ≤ gb101)); have n3_ := Aside0.mk ((by rw [hg]; exact (below_size (by repeat (first | (with_reducible first | exact HB.out | apply below_alloc | apply pw_below_drewN | apply below_drew1) | exact HB.out))) : w.heap.size ≤ gb101)); clear HB; have HB := n0_; have BK101 := n1_; have GW101 := n2_; have GE101 := n3_; clear n0_ n1_ n2_ n3_; clear hb hbox hg) | ((with_reducible refine gate_dst (N := 2) rfl ?_); refine box_event ?hg (N := 2) ?hd (cs := #[.int .i64 0, .slice none 0 0]) (t := 49) ?hr ?_; (case hd => rfl); (case hg => rfl); (case hr => first | (go_simp; done) | (go_simp; rfl)); intro gb102 hg w6 hbox hb; have n0_ := Aside0.mk (blk_below (g := gb101) (o := .cells #[.int .i64 a0_0, .slice A0_1 l0_1.length c0_1] 49 (0, 0)) (by (with_reducible repeat (first | refine blk_drewN ?_ _ | refine blk_drew ?_ | refine blk_alloc ?_ _)); exact BK101.out) hb); have n1_ := Aside0.mk (below_step (by repeat (first | (with_reducible first | exact HB.out | apply below_alloc | apply pw_below_drewN | apply below_drew1 | refine below_set ?_ GE101.out) | exact HB.out)) hb); have n2_ := Aside0.mk (hbox); have n3_ := Aside0.mk ((by rw [hg]; exact (below_size (by repeat (first | (with_reducible first | exact HB.out | apply below_alloc | apply pw_below_drewN | apply below_drew1 | refine below_set ?_ GE101.out) | exact HB.out))) : w.heap.size ≤ gb102)); have n4_ := Aside0.mk ((by rw [hg]; exact (below_size (by repeat (first | (with_reducible first | exact HB.out | apply below_alloc | apply pw_below_drewN | apply below_drew1 | refine below_set ?_ GE101.out) | exact HB.out))) : w.heap.size ≤ gb102)); have n5_ := Aside0.mk ((by rw [hg]; exact Nat.ne_of_lt (blk_lt (g := gb101) (o := .cells #[.int .i64 a0_0, .slice A0_1 l0_1.length c0_1] 49 (0, 0)) (by (with_reducible repeat (first | refine blk_drewN ?_ _ | refine blk_drew ?_ | refine blk_alloc ?_ _)); exact BK101.out)) : gb101 ≠ gb102)); have n6_ := Aside0.mk ((by rw [hg]; exact Nat.ne_of_gt (blk_lt (g := gb101) (o := .cells #[.int .i64 a0_0, .slice A0_1 l0_1.length c0_1] 49 (0, 0)) (by (with_reducible repeat (first | refine blk_drewN ?_ _ | refine blk_drew ?_ | refine blk_alloc ?_ _)); exact BK101.out)) : gb102 ≠ gb101)); clear BK101; clear HB; have BK101 := n0_; have HB := n1_; have BK102 := n2_; have GW102 := n3_; have GE102 := n4_; have NB101_102 := n5_; have NB102_101 := n6_; clear n0_ n1_ n2_ n3_ n4_ n5_ n6_; clear hb hbox hg; have hnb7 := NB101_102.out; have hnc7 := NB102_101.out; have hcz8_0 : w6.cell? ⟨gb101, 0, none⟩ = some (.int .i64 a0_0) := (blk_cell BK101.out 0).trans rfl; have hcz8_1 : w6.cell? ⟨gb101, 1, none⟩ = some (.slice A0_1 l0_1.length c0_1) := (blk_cell BK101.out 1).trans rfl; have hfz8_0 := blk_frozen BK101.out 0; have hfz8_1 := blk_frozen BK101.out 1) | ((with_reducible refine gate_callee (f := 77) rfl ?_); refine goesL_ (some 7) rfl rfl Try.func77 (by kernel_rfl) rfl #[.agg #[.int .i64 a0_0, .slice A0_1 l0_1.length c0_1]] rfl (by (try simp only [List.map_toArray, List.map_cons, List.map_nil]); first | done | rfl | (simp only [List.length_drop, List.length_take]; rfl)) ?_; (with_reducible refine (spec_l03Is.calls k a0_0 _ _ l0_1 true _ ?side1 ?side2 A2.out).mono ?_); (case side1 => repeat (first | exact (Kd.C_below HR0_1.out HB.out) | (with_reducible refine Kd.C_alloc ?_ _) | (with_reducible refine Kd.C_drewN ?_ _) | (with_reducible refine Kd.C_drew ?_))); (case side2 => exact HC0_1.out); rintro e w9 ⟨rfl, hb⟩; refine ⟨_, rfl, ?_⟩; have n0_ := Aside0.mk (blk_below (g := gb101) (o := .cells #[.int .i64 a0_0, .slice A0_1 l0_1.length c0_1] 49 (0, 0)) (by (with_reducible repeat (first | refine blk_drewN ?_ _ | refine blk_drew ?_ | refine blk_alloc ?_ _)); exact BK101.out) hb); have n1_ := Aside0.mk (blk_below (g := gb102) (o := .cells #[.int .i64 0, .slice none 0 0] 49 (0, 0)) (by (with_reducible repeat (first | refine blk_drewN ?_ _ | refine blk_drew ?_ | refine blk_alloc ?_ _)); exact BK102.out) hb); have n2_ := Aside0.mk (below_step (by repeat (first | (with_reducible first | exact HB.out | apply below_alloc | apply pw_below_drewN | apply below_drew1 | refine below_set ?_ GE101.out | refine below_set ?_ GE102.out) | exact HB.out)) hb); clear BK101; clear BK102; clear HB; have BK101 := n0_; have BK102 := n1_; have HB := n2_; clear n0_ n1_ n2_; (try clear hb); (try clear hb2); (try clear hk); (try clear hi); have hcz10_0 : w9.cell? ⟨gb101, 0, none⟩ = some (.int .i64 a0_0) := (blk_cell BK101.out 0).trans rfl; have hcz10_1 : w9.cell? ⟨gb101, 1, none⟩ = some (.slice A0_1 l0_1.length c0_1) := (blk_cell BK101.out 1).trans rfl; have hfz10_0 := blk_frozen BK101.out 0; have hfz10_1 := blk_frozen BK101.out 1) | ((with_reducible refine gate_callee (f := 87) rfl ?_); refine goesL_ (some 12) rfl rfl Try.func87 (by kernel_rfl) rfl #[.int .i64 a0_0] rfl (by (try simp only [List.map_toArray, List.map_cons, List.map_nil]); first | done | rfl | (simp only [List.length_drop, List.length_take]; rfl)) ?_; (with_reducible refine (spec_l03Empty.calls a0_0 t104 t105 _ A4.out).mono ?_); rintro e w11 ⟨v106, rfl, ho0, hb⟩; refine ⟨_, rfl, ?_⟩; have n0_ := Aside0.mk (Kd.S_lower ho0 (below_size (by repeat (first | (with_reducible first | exact HB.out | apply below_alloc | apply pw_below_drewN | apply below_drew1 | refine below_set ?_ GE101.out | refine below_set ?_ GE102.out) | exact HB.out)))); have n1_ := Aside0.mk (blk_below (g := gb101) (o := .cells #[.int .i64 a0_0, .slice A0_1 l0_1.length c0_1] 49 (0, 0)) (by (with_reducible repeat (first | refine blk_drewN ?_ _ | refine blk_drew ?_ | refine blk_alloc ?_ _)); exact BK101.out) hb); have n2_ := Aside0.mk (blk_below (g := gb102) (o := .cells #[.int .i64 0, .slice none 0 0] 49 (0, 0)) (by (with_reducible repeat (first | refine blk_drewN ?_ _ | refine blk_drew ?_ | refine blk_alloc ?_ _)); exact BK102.out) hb); have n3_ := Aside0.mk (below_step (by repeat (first | (with_reducible first | exact HB.out | apply below_alloc | apply pw_below_drewN | apply below_drew1 | refine below_set ?_ GE101.out | refine below_set ?_ GE102.out) | exact HB.out)) hb); clear BK101; clear BK102; clear HB; have HO107 := n0_; have BK101 := n1_; have BK102 := n2_; have HB := n3_; clear n0_ n1_ n2_ n3_; (try clear hb); (try clear hb2); (try clear hk); (try clear hi); (try clear ho0)) | ((with_reducible refine gate_dst (N := 4) rfl ?_); refine box_event ?hg (N := 4) ?hd (cs := #[.int .i64 0, .slice none 0 0]) (t := 49) ?hr ?_; (case hd => rfl); (case hg => rfl); (case hr => first | (go_simp; done) | (go_simp; rfl)); intro gb108 hg w12 hbox hb; have n0_ := Aside0.mk (Kd.S_below (by (with_reducible repeat (first | apply Kd.S_alloc | apply Kd.S_drewN | apply Kd.S_drew)); exact HO107.out) hb); have n1_ := Aside0.mk (blk_below (g := gb101) (o := .cells #[.int .i64 a0_0, .slice A0_1 l0_1.length c0_1] 49 (0, 0)) (by (with_reducible repeat (first | refine blk_drewN ?_ _ | refine blk_drew ?_ | refine blk_alloc ?_ _)); exact BK101.out) hb); have n2_ := Aside0.mk (blk_below (g := gb102) (o := .cells #[.int .i64 0, .slice none 0 0] 49 (0, 0)) (by (with_reducible repeat (first | refine blk_drewN ?_ _ | refine blk_drew ?_ | refine blk_alloc ?_ _)); exact BK102.out) hb); have n3_ := Aside0.mk (below_step (by repeat (first | (with_reducible first | exact HB.out | apply below_alloc | apply pw_below_drewN | apply below_drew1 | refine below_set ?_ GE101.out | refine below_set ?_ GE102.out) | exact HB.out)) hb); have n4_ := Aside0.mk (hbox); have n5_ := Aside0.mk ((by rw [hg]; exact (below_size (by repeat (first | (with_reducible first | exact HB.out | apply below_alloc | apply pw_below_drewN | apply below_drew1 | refine below_set ?_ GE101.out | refine below_set ?_ GE102.out) | exact HB.out))) : w.heap.size ≤ gb108)); have n6_ := Aside0.mk ((by rw [hg]; exact (below_size (by repeat (first | (with_reducible first | exact HB.out | apply below_alloc | apply pw_below_drewN | apply below_drew1 | refine below_set ?_ GE101.out | refine below_set ?_ GE102.out) | exact HB.out))) : w.heap.size ≤ gb108)); have n7_ := Aside0.mk ((by rw [hg]; exact Nat.ne_of_lt (blk_lt (g := gb101) (o := .cells #[.int .i64 a0_0, .slice A0_1 l0_1.length c0_1] 49 (0, 0)) (by (with_reducible repeat (first | refine blk_drewN ?_ _ | refine blk_drew ?_ | refine blk_alloc ?_ _)); exact BK101.out)) : gb101 ≠ gb108)); have n8_ := Aside0.mk ((by rw [hg]; exact Nat.ne_of_gt (blk_lt (g := gb101) (o := .cells #[.int .i64 a0_0, .slice A0_1 l0_1.length c0_1] 49 (0, 0)) (by (with_reducible repeat (first | refine blk_drewN ?_ _ | refine blk_drew ?_ | refine blk_alloc ?_ _)); exact BK101.out)) : gb108 ≠ gb101)); have n9_ := Aside0.mk ((by rw [hg]; exact Nat.ne_of_lt (blk_lt (g := gb102) (o := .cells #[.int .i64 0, .slice none 0 0] 49 (0, 0)) (by (with_reducible repeat (first | refine blk_drewN ?_ _ | refine blk_drew ?_ | refine blk_alloc ?_ _)); exact BK102.out)) : gb102 ≠ gb108)); have n10_ := Aside0.mk ((by rw [hg]; exact Nat.ne_of_gt (blk_lt (g := gb102) (o := .cells #[.int .i64 0, .slice none 0 0] 49 (0, 0)) (by (with_reducible repeat (first | refine blk_drewN ?_ _ | refine blk_drew ?_ | refine blk_alloc ?_ _)); exact BK102.out)) : gb108 ≠ gb102)); clear HO107; clear BK101; clear BK102; clear HB; have HO107 := n0_; have BK101 := n1_; have BK102 := n2_; have HB := n3_; have BK108 := n4_; have GW108 := n5_; have GE108 := n6_; have NB101_108 := n7_; have NB108_101 := n8_; have NB102_108 := n9_; have NB108_102 := n10_; clear n0_ n1_ n2_ n3_ n4_ n5_ n6_ n7_ n8_ n9_ n10_; clear hb hbox hg; have hnb13 := NB108_101.out; have hnc13 := NB101_108.out; have hnb14 := NB108_102.out; have hnc14 := NB102_108.out; have hcz15_0 : w12.cell? ⟨gb108, 0, none⟩ = some (.int .i64 0) := (blk_cell BK108.out 0).trans rfl; have hcz15_1 : w12.cell? ⟨gb108, 1, none⟩ = some (.slice none 0 0) := (blk_cell BK108.out 1).trans rfl; have hfz15_0 := blk_frozen BK108.out 0; have hfz15_1 := blk_frozen BK108.out 1; obtain ⟨Ao16, co16, eo16⟩ := Kd.S_slice HO107.out; subst eo16))
  go_loopg [5] k (fun kq v5 w' => ∃ (x5_1 : Int) (x109000_1 : Int) (x109001_1 : List (S89)) (u109001 : Value), v5 = .int .i64 x5_1 ∧ Aside0 (spec_ReflectSum.l0 kq x5_1 a0_0 l0_1 x109000_1 x109001_1 = some (r1, r2, r3)) ∧ Aside0 (kq ≤ k) ∧ Aside0 (Kd.S k89 89 w' w.heap.size (fun _ => True) u109001 x109001_1) ∧ Aside0 (w'.heap[gb101]? = some (.cells #[.int .i64 a0_0, (.slice A0_1 l0_1.length c0_1)] 49 (0, 0))) ∧ Aside0 (w'.heap[gb102]? = some (.cells #[.int .i64 0, (.slice none 0 0)] 49 (0, 0))) ∧ Aside0 (w'.heap[gb108]? = some (.cells #[.int .i64 x109000_1, u109001] 49 (0, 0))) ∧ Aside0 (Below w.heap.size w w'))
  case atStart => exact ⟨(0), (t104), (t105), (.slice Ao16 t105.length co16), (by first | rfl | (simp; done) | (simp [*]; done)), H', ⟨Nat.le_refl _⟩, ⟨by (with_reducible repeat (first | apply Kd.S_alloc | apply Kd.S_drewN | apply Kd.S_drew)); exact Kd.S_mono (Kd.S_far (p := ⟨gb108, 1, none⟩) (Kd.S_far (p := ⟨gb108, 0, none⟩) (Kd.S_types HO107.out BK108.out (by decide)) (fun _ hk => hk.2) (.int .i64 t104)) (fun _ hk => hk.2) (.slice Ao16 t105.length co16)) (fun _ hk => trivial)⟩, ⟨by (with_reducible repeat (first | refine blk_drewN ?_ _ | refine blk_drew ?_ | refine blk_alloc ?_ _)); refine blk_far ?_ NB101_108.out _; (with_reducible repeat (first | refine blk_drewN ?_ _ | refine blk_drew ?_ | refine blk_alloc ?_ _)); refine blk_far ?_ NB101_108.out _; (with_reducible repeat (first | refine blk_drewN ?_ _ | refine blk_drew ?_ | refine blk_alloc ?_ _)); exact BK101.out⟩, ⟨by (with_reducible repeat (first | refine blk_drewN ?_ _ | refine blk_drew ?_ | refine blk_alloc ?_ _)); refine blk_far ?_ NB102_108.out _; (with_reducible repeat (first | refine blk_drewN ?_ _ | refine blk_drew ?_ | refine blk_alloc ?_ _)); refine blk_far ?_ NB102_108.out _; (with_reducible repeat (first | refine blk_drewN ?_ _ | refine blk_drew ?_ | refine blk_alloc ?_ _)); exact BK102.out⟩, ⟨by (with_reducible repeat (first | refine blk_drewN ?_ _ | refine blk_drew ?_ | refine blk_alloc ?_ _)); refine blk_put (cs := #[.int .i64 t104, .slice none 0 0]) ?_ 1 _ rfl; (with_reducible repeat (first | refine blk_drewN ?_ _ | refine blk_drew ?_ | refine blk_alloc ?_ _)); refine blk_put (cs := #[.int .i64 0, .slice none 0 0]) ?_ 0 _ rfl; (with_reducible repeat (first | refine blk_drewN ?_ _ | refine blk_drew ?_ | refine blk_alloc ?_ _)); exact BK108.out⟩, ⟨by repeat (first | (with_reducible first | exact HB.out | apply below_alloc | apply pw_below_drewN | apply below_drew1 | refine below_set ?_ GE101.out | refine below_set ?_ GE102.out | refine below_set ?_ GE108.out) | exact HB.out)⟩⟩
  case round =>
   clear H'
   try clear c1
   try clear p2
   try clear c3
   try clear c4
   try clear c7
   try clear c8
   try clear c13
   try clear c14
   try clear hcz10_0
   try clear hcz10_1
   try clear hcz15_0
   try clear hcz15_1
   try clear hcz8_0
   try clear hcz8_1
   try clear hfz10_0
   try clear hfz10_1
   try clear hfz15_0
   try clear hfz15_1
   try clear hfz8_0
   try clear hfz8_1
   obtain ⟨x5_1, x109000_1, x109001_1, u109001, rfl, HA, HK1, HO_109001, BK101, BK102, BK108, HB⟩ := hrel
   cases gk with
   | zero => exact absurd HA.out (by simp [spec_ReflectSum.l0])
   | succ k1 =>
    have H := HA.out
    clear HA
    simp only [spec_ReflectSum.l0] at H
    by_cases c17 : x5_1 < (l0_1.length : Int)
    ·rw [if_pos c17] at H
     have c17b0 : decide (x5_1 < (l0_1.length : Int)) = true := decide_eq_true c17
     clear c17
     by_cases c18 : 0 ≤ x5_1
     ·rw [if_pos c18] at H
      have c18b0 : decide (0 ≤ x5_1) = true := decide_eq_true c18
      clear c18
      replace H := Option.bind_eq_some_iff.mp H
      obtain ⟨t110, A190, H⟩ := H
      replace H : ((spec_l03Put.f k1 x109000_1 x109001_1 t110 ((rd_T89 l0_1 x5_1).f1)).bind fun bt114 => (spec_ReflectSum.l0 k1 (wrap64 (x5_1 + 1)) a0_0 l0_1 bt114.1 bt114.2)) = some (r1, r2, r3) := H
      have A19 := Aside0.mk A190
      clear A190
      replace H := Option.bind_eq_some_iff.mp H
      obtain ⟨⟨t114, t115⟩, A200, H⟩ := H
      replace H : (spec_ReflectSum.l0 k1 (wrap64 (x5_1 + 1)) a0_0 l0_1 t114 t115) = some (r1, r2, r3) := H
      have A20 := Aside0.mk A200
      clear A200
      have H' := Aside0.mk H
      clear H
      have hnb21 := NB101_102.out
      have hnc21 := NB102_101.out
      have hnb22 := NB101_108.out
      have hnc22 := NB108_101.out
      have hcz23_0 : wr.cell? ⟨gb101, 0, none⟩ = some (.int .i64 a0_0) := (blk_cell BK101.out 0).trans rfl
      have hcz23_1 : wr.cell? ⟨gb101, 1, none⟩ = some (.slice A0_1 l0_1.length c0_1) := (blk_cell BK101.out 1).trans rfl
      have hfz23_0 := blk_frozen BK101.out 0
      have hfz23_1 := blk_frozen BK101.out 1
      try go_wp2
      have n0_ := Aside0.mk (Kd.S_drew HO_109001.out)
      have n1_ := Aside0.mk (blk_drew BK101.out)
      have n2_ := Aside0.mk (blk_drew BK102.out)
      have n3_ := Aside0.mk (blk_drew BK108.out)
      have n4_ := Aside0.mk (below_drew1 HB.out)
      clear HO_109001
      clear BK101
      clear BK102
      clear BK108
      clear HB
      have HO_109001 := n0_
      have BK101 := n1_
      have BK102 := n2_
      have BK108 := n3_
      have HB := n4_
      clear n0_ n1_ n2_ n3_ n4_
      have p109 : 0 ≤ (x5_1 : Int) := of_decide_eq_true (by first | (with_reducible assumption) | assumption)
      have q109 : x5_1 < (l0_1.length : Int) := of_decide_eq_true (by first | (with_reducible assumption) | assumption)
      obtain ⟨ad109, A109_0, c109_0, e109, hx109_0, hx109_1, hl109_0, hi109_0⟩ := at_T89 HR0_1.out x5_1 p109 q109
      have hw109_1 := hx109_1
      have hw109_0 := hx109_0
      cases e109
      replace hx109_0 := (HB.out.cell (World.block_lt_of_cell? w _ hx109_0)).trans hx109_0
      replace hx109_1 := (HB.out.cell (World.block_lt_of_cell? w _ hx109_1)).trans hx109_1
      have HR109_0 := Aside0.mk hi109_0
      have HC109_0 := Aside0.mk hl109_0
      clear hi109_0 hl109_0
      replace p109 := eq_true p109
      replace q109 := eq_true q109
      have p113 : 0 ≤ (x5_1 : Int) := of_decide_eq_true (by first | (with_reducible assumption) | assumption)
      have q113 : x5_1 < (l0_1.length : Int) := of_decide_eq_true (by first | (with_reducible assumption) | assumption)
      obtain ⟨ad113, A113_0, c113_0, e113, hx113_0, hx113_1, hl113_0, hi113_0⟩ := at_T89 HR0_1.out x5_1 p113 q113
      have hw113_1 := hx113_1
      have hw113_0 := hx113_0
      obtain rfl : ad109 = ad113 := (by injection e113)
      replace hx113_0 := (HB.out.cell (World.block_lt_of_cell? w _ hx113_0)).trans hx113_0
      replace hx113_1 := (HB.out.cell (World.block_lt_of_cell? w _ hx113_1)).trans hx113_1
      have HR113_0 := Aside0.mk hi113_0
      have HC113_0 := Aside0.mk hl113_0
      clear hi113_0 hl113_0
      replace p113 := eq_true p113
      replace q113 := eq_true q113
      have ea_ := Option.some.inj (hx109_0.symm.trans hx113_0)
      injection ea_ with ea_ en_ ec_
      subst ea_
      subst ec_
      clear en_
      refine start_ (n := 16) (S := fun w' => w'.cell? ⟨gb108, 0, none⟩ = some (.int .i64 x109000_1) ∧ w'.cell? ⟨gb108, 1, none⟩ = some (u109001) ∧ w'.cell? ⟨gb101, 0, none⟩ = some (.int .i64 a0_0) ∧ w'.cell? ⟨gb101, 1, none⟩ = some (.slice (some ad109) l0_1.length c0_1) ∧ w'.cell? (ad109.add ((x5_1).toNat * 2)) = some (.slice A109_0 ((rd_T89 l0_1 x5_1).f0).length c109_0) ∧ w'.cell? ⟨(ad109.add ((x5_1).toNat * 2)).block, (ad109.add ((x5_1).toNat * 2)).off + 1, none⟩ = some (.int .i64 ((rd_T89 l0_1 x5_1).f1)) ∧ w'.cell? (ad109.add ((x5_1).toNat * 2)) = some (.slice A109_0 ((rd_T89 l0_1 x5_1).f0).length c109_0) ∧ w'.cell? ⟨(ad109.add ((x5_1).toNat * 2)).block, (ad109.add ((x5_1).toNat * 2)).off + 1, none⟩ = some (.int .i64 ((rd_T89 l0_1 x5_1).f1))) (ds := [15]) #[false, false, false, false, false, false, false, false, false, false, false, false, false, false, false, false] (by kernel_rfl) rfl rfl ⟨(blk_cell BK108.out 0).trans rfl, (blk_cell BK108.out 1).trans rfl, (blk_cell BK101.out 0).trans rfl, (blk_cell BK101.out 1).trans rfl, ((HB.out.cell (World.block_lt_of_cell? w _ hw109_0)).trans hw109_0), ((HB.out.cell (World.block_lt_of_cell? w _ hw109_1)).trans hw109_1), ((HB.out.cell (World.block_lt_of_cell? w _ hw113_0)).trans hw113_0), ((HB.out.cell (World.block_lt_of_cell? w _ hw113_1)).trans hw113_1)⟩ (fun hHeld => ?_); refine with_tabW spec_ReflectSum.tab7 spec_ReflectSum.bits7 (fun HT_ HW_ => ?_)
      generalize wr.drew = w24 at HO_109001 BK101 BK102 BK108 HB HR109_0 HR113_0 hx109_0 hx109_1 hx113_0 hx113_1 hHeld ⊢
      refine pure_ (i := 1) (N := some 21) (v := ?_) (a' := ?_) #[false, true, false, false, false, false, false, false, false, false, false, false, false, false, false, false] rfl rfl (any_of HT_.out (by kernel_rfl)) (fun _ _ _ h => h) (Or.inl ⟨by rfl, ?_⟩) ?_ ?_
      rotate_left
      ·intro w'
       go_simp
       with_reducible rfl
      rotate_left
      ·simp only [Act.put, sA, sZ, sS, i64_w, i32_w]
       rfl
      refine pure_ (i := 3) (N := some 23) (v := ?_) (a' := ?_) #[false, true, false, true, false, false, false, false, false, false, false, false, false, false, false, false] rfl rfl (any_of HT_.out (by kernel_rfl)) (fun _ _ _ h => h) (Or.inl ⟨by rfl, ?_⟩) ?_ ?_
      rotate_left
      ·intro w'
       go_simp
       with_reducible rfl
      rotate_left
      ·simp only [Act.put, sA, sZ, sS, i64_w, i32_w]
       rfl
      refine pure_ (i := 8) (N := some 28) (v := ?_) (a' := ?_) #[false, true, false, true, false, false, false, false, true, false, false, false, false, false, false, false] rfl rfl (any_of HT_.out (by kernel_rfl)) (fun _ _ _ h => h) (Or.inl ⟨by rfl, ?_⟩) ?_ ?_
      rotate_left
      ·intro w'
       go_simp
       with_reducible rfl
      rotate_left
      ·simp only [Act.put, sA, sZ, sS, i64_w, i32_w]
       rfl
      refine pure_ (i := 10) (N := some 30) (v := ?_) (a' := ?_) #[false, true, false, true, false, false, false, false, true, false, true, false, false, false, false, false] rfl rfl (any_of HT_.out (by kernel_rfl)) (fun _ _ _ h => h) (Or.inl ⟨by rfl, ?_⟩) ?_ ?_
      rotate_left
      ·intro w'
       go_simp
       with_reducible rfl
      rotate_left
      ·simp only [Act.put, sA, sZ, sS, i64_w, i32_w]
       rfl
      refine take_ (i := 0) (N := some 20) (v := ?_) (a' := ?_) #[true, true, false, true, false, false, false, false, true, false, true, false, false, false, false, false] rfl rfl (take_ofW HT_.out HW_.out (by kernel_rfl)) (fun _ _ _ h => h) (Or.inl ⟨by rfl, ?_⟩) hHeld ?_ ?_
      rotate_left
      ·rintro w' ⟨s0, s1, s2, s3, s4, s5, s6, s7⟩
       go_simp
       with_reducible rfl
      rotate_left
      ·simp only [Act.put, sA, sZ, sS, i64_w, i32_w]
       rfl
      refine take_ (i := 2) (N := some 22) (v := ?_) (a' := ?_) #[true, true, true, true, false, false, false, false, true, false, true, false, false, false, false, false] rfl rfl (take_ofW HT_.out HW_.out (by kernel_rfl)) (fun _ _ _ h => h) (Or.inl ⟨by rfl, ?_⟩) hHeld ?_ ?_
      rotate_left
      ·rintro w' ⟨s0, s1, s2, s3, s4, s5, s6, s7⟩
       go_simp
       with_reducible rfl
      rotate_left
      ·simp only [Act.put, sA, sZ, sS, i64_w, i32_w]
       rfl
      refine pure_ (i := 4) (N := some 24) (v := ?_) (a' := ?_) #[true, true, true, true, true, false, false, false, true, false, true, false, false, false, false, false] rfl rfl (any_of HT_.out (by kernel_rfl)) (fun _ _ _ h => h) (Or.inl ⟨by rfl, ?_⟩) ?_ ?_
      rotate_left
      ·intro w'
       go_simp
       with_reducible rfl
      rotate_left
      ·simp only [Act.put, sA, sZ, sS, i64_w, i32_w]
       rfl
      refine pure_ (i := 5) (N := some 25) (v := ?_) (a' := ?_) #[true, true, true, true, true, true, false, false, true, false, true, false, false, false, false, false] rfl rfl (any_of HT_.out (by kernel_rfl)) (fun _ _ _ h => h) (Or.inl ⟨by rfl, ?_⟩) ?_ ?_
      rotate_left
      ·intro w'
       go_simp
       with_reducible rfl
      rotate_left
      ·simp only [Act.put, sA, sZ, sS, i64_w, i32_w]
       rfl
      refine take_ (i := 6) (N := some 26) (v := ?_) (a' := ?_) #[true, true, true, true, true, true, true, false, true, false, true, false, false, false, false, false] rfl rfl (take_ofW HT_.out HW_.out (by kernel_rfl)) (fun _ _ _ h => h) (Or.inl ⟨by rfl, ?_⟩) hHeld ?_ ?_
      rotate_left
      ·rintro w' ⟨s0, s1, s2, s3, s4, s5, s6, s7⟩
       go_simp
       with_reducible rfl
      rotate_left
      ·simp only [Act.put, sA, sZ, sS, i64_w, i32_w]
       rfl
      refine take_ (i := 9) (N := some 29) (v := ?_) (a' := ?_) #[true, true, true, true, true, true, true, false, true, true, true, false, false, false, false, false] rfl rfl (take_ofW HT_.out HW_.out (by kernel_rfl)) (fun _ _ _ h => h) (Or.inl ⟨by rfl, ?_⟩) hHeld ?_ ?_
      rotate_left
      ·rintro w' ⟨s0, s1, s2, s3, s4, s5, s6, s7⟩
       go_simp
       with_reducible rfl
      rotate_left
      ·simp only [Act.put, sA, sZ, sS, i64_w, i32_w]
       rfl
      refine pure_ (i := 11) (N := some 31) (v := ?_) (a' := ?_) #[true, true, true, true, true, true, true, false, true, true, true, true, false, false, false, false] rfl rfl (any_of HT_.out (by kernel_rfl)) (fun _ _ _ h => h) (Or.inl ⟨by rfl, ?_⟩) ?_ ?_
      rotate_left
      ·intro w'
       go_simp
       with_reducible rfl
      rotate_left
      ·simp only [Act.put, sA, sZ, sS, i64_w, i32_w]
       rfl
      refine pure_ (i := 12) (N := some 32) (v := ?_) (a' := ?_) #[true, true, true, true, true, true, true, false, true, true, true, true, true, false, false, false] rfl rfl (any_of HT_.out (by kernel_rfl)) (fun _ _ _ h => h) (Or.inl ⟨by rfl, ?_⟩) ?_ ?_
      rotate_left
      ·intro w'
       go_simp
       with_reducible rfl
      rotate_left
      ·simp only [Act.put, sA, sZ, sS, i64_w, i32_w]
       rfl
      refine take_ (i := 13) (N := some 33) (v := ?_) (a' := ?_) #[true, true, true, true, true, true, true, false, true, true, true, true, true, true, false, false] rfl rfl (take_ofW HT_.out HW_.out (by kernel_rfl)) (fun _ _ _ h => h) (Or.inl ⟨by rfl, ?_⟩) hHeld ?_ ?_
      rotate_left
      ·rintro w' ⟨s0, s1, s2, s3, s4, s5, s6, s7⟩
       go_simp
       with_reducible rfl
      rotate_left
      ·simp only [Act.put, sA, sZ, sS, i64_w, i32_w]
       rfl
      refine one_ (i := 7) (N := some 27) #[true, true, true, true, true, true, true, true, true, true, true, true, true, true, false, false] rfl rfl (one_of HT_.out (by kernel_rfl)) (by decide) (fun K hK => ?_)
      refine goes_ Try.func91 (by kernel_rfl) rfl #[.slice A109_0 ((rd_T89 l0_1 x5_1).f0).length c109_0] (by rfl) rfl rfl (by (try simp only [List.map_toArray, List.map_cons, List.map_nil]); first | done | rfl | (simp only [List.length_drop, List.length_take]; rfl)) ?_
      with_reducible refine (spec_l01Reflect.calls k1 _ _ ((rd_T89 l0_1 x5_1).f0) t110 _ ?side1 ?side2 A19.out).mono ?_
      (case side1 => repeat (first | exact (Kd.C_below HR109_0.out HB.out) | (with_reducible refine Kd.C_alloc ?_ _) | (with_reducible refine Kd.C_drewN ?_ _) | (with_reducible refine Kd.C_drew ?_)))
      (case side2 => exact HC109_0.out)
      rintro e w25 ⟨v111, rfl, ho0, hb⟩
      refine ⟨_, rfl, ?_⟩
      have n0_ := Aside0.mk (Kd.S_elder' (by (with_reducible repeat (first | apply Kd.S_alloc | apply Kd.S_drewN | apply Kd.S_drew)); exact HO_109001.out) (Kd.R_base ho0) hb)
      have n1_ := Aside0.mk (Kd.R_lower ho0 (below_size (by repeat (first | (with_reducible first | exact HB.out | apply below_alloc | apply pw_below_drewN | apply below_drew1 | refine below_set ?_ GE101.out | refine below_set ?_ GE102.out | refine below_set ?_ GE108.out) | exact HB.out))))
      have n2_ := Aside0.mk (blk_below (g := gb101) (o := .cells #[.int .i64 a0_0, .slice (some ad109) l0_1.length c0_1] 49 (0, 0)) (by (with_reducible repeat (first | refine blk_drewN ?_ _ | refine blk_drew ?_ | refine blk_alloc ?_ _)); exact BK101.out) hb)
      have n3_ := Aside0.mk (blk_below (g := gb102) (o := .cells #[.int .i64 0, .slice none 0 0] 49 (0, 0)) (by (with_reducible repeat (first | refine blk_drewN ?_ _ | refine blk_drew ?_ | refine blk_alloc ?_ _)); exact BK102.out) hb)
      have n4_ := Aside0.mk (blk_below (g := gb108) (o := .cells #[.int .i64 x109000_1, u109001] 49 (0, 0)) (by (with_reducible repeat (first | refine blk_drewN ?_ _ | refine blk_drew ?_ | refine blk_alloc ?_ _)); exact BK108.out) hb)
      have n5_ := Aside0.mk (below_step (by repeat (first | (with_reducible first | exact HB.out | apply below_alloc | apply pw_below_drewN | apply below_drew1 | refine below_set ?_ GE101.out | refine below_set ?_ GE102.out | refine below_set ?_ GE108.out) | exact HB.out)) hb)
      clear HO_109001
      clear BK101
      clear BK102
      clear BK108
      clear HB
      have HO_109001 := n0_
      have HO112 := n1_
      have BK101 := n2_
      have BK102 := n3_
      have BK108 := n4_
      have HB := n5_
      clear n0_ n1_ n2_ n3_ n4_ n5_
      (try clear hb)
      (try clear hb2)
      (try clear hk)
      (try clear hi)
      (try clear ho0)
      obtain ⟨Ao26, co26, eo26⟩ := Kd.S_slice HO_109001.out
      (first | subst eo26 | (injection eo26 with f1_ f2_ f3_; have f4_ := f1_.symm; have f5_ := f3_.symm; clear f1_ f2_ f3_; subst f4_; subst f5_))
      obtain ⟨Ao27, co27, eo27⟩ := Kd.R_slice HO112.out
      (first | subst eo27 | (injection eo27 with f1_ f2_ f3_; have f4_ := f1_.symm; have f5_ := f3_.symm; clear f1_ f2_ f3_; subst f4_; subst f5_))
      refine hK.out _ _ ⟨(blk_cell BK108.out 0).trans rfl, (blk_cell BK108.out 1).trans rfl, (blk_cell BK101.out 0).trans rfl, (blk_cell BK101.out 1).trans rfl, ((HB.out.cell (World.block_lt_of_cell? w _ hw109_0)).trans hw109_0), ((HB.out.cell (World.block_lt_of_cell? w _ hw109_1)).trans hw109_1), ((HB.out.cell (World.block_lt_of_cell? w _ hw113_0)).trans hw113_0), ((HB.out.cell (World.block_lt_of_cell? w _ hw113_1)).trans hw113_1)⟩ (fun hHeld => ?_)
      clear hK K
      refine norm_ (a' := ?_) ?_ ?_
      rotate_left
      ·show Act.put _ (some 27) _ = _
       simp only [Act.put, sA, sZ, sS, i64_w, i32_w]
       rfl
      refine one_ (i := 14) (N := some 34) #[true, true, true, true, true, true, true, true, true, true, true, true, true, true, true, false] rfl rfl (one_of HT_.out (by kernel_rfl)) (by decide) (fun K hK => ?_)
      refine goes_ Try.func86 (by kernel_rfl) rfl #[.agg #[.int .i64 x109000_1, .slice Ao26 x109001_1.length co26], .slice Ao27 t110.length co27, .int .i64 ((rd_T89 l0_1 x5_1).f1)] (by rfl) rfl rfl (by (try simp only [List.map_toArray, List.map_cons, List.map_nil]); first | done | rfl | (simp only [List.length_drop, List.length_take]; rfl)) ?_
      with_reducible refine (spec_l03Put.calls k1 x109000_1 _ _ x109001_1 _ _ t110 ((rd_T89 l0_1 x5_1).f1) t114 t115 _ ?side1 ?side2 ?side3 ?side4 A20.out).mono ?_
      (case side1 => repeat (first | exact (Kd.S_reads' HO_109001.out).2.2 | (with_reducible refine Kd.C_alloc ?_ _) | (with_reducible refine Kd.C_drewN ?_ _) | (with_reducible refine Kd.C_drew ?_)))
      (case side2 => exact (Kd.S_reads' HO_109001.out).2.1)
      (case side3 => repeat (first | exact (Kd.R_reads' HO112.out).2.2 | (with_reducible refine Kd.C_alloc ?_ _) | (with_reducible refine Kd.C_drewN ?_ _) | (with_reducible refine Kd.C_drew ?_)))
      (case side4 => exact (Kd.R_reads' HO112.out).2.1)
      rintro e w28 ⟨v116, rfl, ho0, hb⟩
      refine ⟨_, rfl, ?_⟩
      have n0_ := Aside0.mk (Kd.S_elder' (by (with_reducible repeat (first | apply Kd.S_alloc | apply Kd.S_drewN | apply Kd.S_drew)); exact HO_109001.out) (Kd.S_base ho0) hb)
      have n1_ := Aside0.mk (Kd.R_below (by (with_reducible repeat (first | apply Kd.R_alloc | apply Kd.R_drewN | apply Kd.R_drew)); exact HO112.out) hb)
      have n2_ := Aside0.mk (Kd.S_lower (Kd.S_new' (Kd.S_new' ho0 (Kd.S_lt (by (with_reducible repeat (first | apply Kd.S_alloc | apply Kd.S_drewN | apply Kd.S_drew)); exact HO_109001.out))) (Kd.R_lt (by (with_reducible repeat (first | apply Kd.R_alloc | apply Kd.R_drewN | apply Kd.R_drew)); exact HO112.out))) (below_size (by repeat (first | (with_reducible first | exact HB.out | apply below_alloc | apply pw_below_drewN | apply below_drew1 | refine below_set ?_ GE101.out | refine below_set ?_ GE102.out | refine below_set ?_ GE108.out) | exact HB.out))))
      have n3_ := Aside0.mk (blk_below (g := gb101) (o := .cells #[.int .i64 a0_0, .slice (some ad109) l0_1.length c0_1] 49 (0, 0)) (by (with_reducible repeat (first | refine blk_drewN ?_ _ | refine blk_drew ?_ | refine blk_alloc ?_ _)); exact BK101.out) hb)
      have n4_ := Aside0.mk (blk_below (g := gb102) (o := .cells #[.int .i64 0, .slice none 0 0] 49 (0, 0)) (by (with_reducible repeat (first | refine blk_drewN ?_ _ | refine blk_drew ?_ | refine blk_alloc ?_ _)); exact BK102.out) hb)
      have n5_ := Aside0.mk (blk_below (g := gb108) (o := .cells #[.int .i64 x109000_1, .slice Ao26 x109001_1.length co26] 49 (0, 0)) (by (with_reducible repeat (first | refine blk_drewN ?_ _ | refine blk_drew ?_ | refine blk_alloc ?_ _)); exact BK108.out) hb)
      have n6_ := Aside0.mk (below_step (by repeat (first | (with_reducible first | exact HB.out | apply below_alloc | apply pw_below_drewN | apply below_drew1 | refine below_set ?_ GE101.out | refine below_set ?_ GE102.out | refine below_set ?_ GE108.out) | exact HB.out)) hb)
      clear HO_109001
      clear HO112
      clear BK101
      clear BK102
      clear BK108
      clear HB
      have HO_109001 := n0_
      have HO112 := n1_
      have HO117 := n2_
      have BK101 := n3_
      have BK102 := n4_
      have BK108 := n5_
      have HB := n6_
      clear n0_ n1_ n2_ n3_ n4_ n5_ n6_
      (try clear hb)
      (try clear hb2)
      (try clear hk)
      (try clear hi)
      (try clear ho0)
      obtain ⟨Ao30, co30, eo30⟩ := Kd.S_slice HO117.out
      (first | subst eo30 | (injection eo30 with f1_ f2_ f3_; have f4_ := f1_.symm; have f5_ := f3_.symm; clear f1_ f2_ f3_; subst f4_; subst f5_))
      refine hK.out _ _ ⟨(blk_cell BK108.out 0).trans rfl, (blk_cell BK108.out 1).trans rfl, (blk_cell BK101.out 0).trans rfl, (blk_cell BK101.out 1).trans rfl, ((HB.out.cell (World.block_lt_of_cell? w _ hw109_0)).trans hw109_0), ((HB.out.cell (World.block_lt_of_cell? w _ hw109_1)).trans hw109_1), ((HB.out.cell (World.block_lt_of_cell? w _ hw113_0)).trans hw113_0), ((HB.out.cell (World.block_lt_of_cell? w _ hw113_1)).trans hw113_1)⟩ (fun hHeld => ?_)
      clear hK K
      refine norm_ (a' := ?_) ?_ ?_
      rotate_left
      ·show Act.put _ (some 34) _ = _
       simp only [Act.put, sA, sZ, sS, i64_w, i32_w]
       rfl
      refine last_ (i := 15) (N := none) #[true, true, true, true, true, true, true, true, true, true, true, true, true, true, true, true] rfl rfl (one_of HT_.out (by kernel_rfl)) (by decide) (fun K hK => ?_)
      have hs29 : w28.cell? ⟨gb108, 0, none⟩ = some (.int .i64 x109000_1) := (blk_cell BK108.out 0).trans rfl
      have hfs29 := blk_frozen BK108.out 0
      have hns29_0 := NB101_108.out
      have hns29_1 := NB102_108.out
      have hms29_0 := NB108_101.out
      have hms29_1 := NB108_102.out
      have hs31 : w28.cell? ⟨gb108, 1, none⟩ = some (.slice Ao26 x109001_1.length co26) := (blk_cell BK108.out 1).trans rfl
      have hfs31 := blk_frozen BK108.out 1
      have hns31_0 := NB101_108.out
      have hns31_1 := NB102_108.out
      have hms31_0 := NB108_101.out
      have hms31_1 := NB108_102.out
      refine skip_ (w1 := ?_) (by rfl) rfl ?_ ?_
      rotate_left
      ·go_simp
       rfl
      refine hK.out _ _ ?_
      clear hK K
      refine done_ (done_of HT_.out (by kernel_rfl)) ?_
      try go_wp2
      go_roundg k1
      case measure => have := HK1.out; omega
      case rel => exact ⟨(wrap64 (x5_1 + 1)), (t114), (t115), (.slice Ao30 t115.length co30), (by first | rfl | (simp; done) | (simp [*]; done)), H', ⟨by have := HK1.out; omega⟩, ⟨by (with_reducible repeat (first | apply Kd.S_alloc | apply Kd.S_drewN | apply Kd.S_drew)); exact Kd.S_mono (Kd.S_far (p := ⟨gb108, 1, none⟩) (Kd.S_far (p := ⟨gb108, 0, none⟩) (Kd.S_types HO117.out BK108.out (by decide)) (fun _ hk => hk.2) (.int .i64 t114)) (fun _ hk => hk.2) (.slice Ao30 t115.length co30)) (fun _ hk => trivial)⟩, ⟨by (with_reducible repeat (first | refine blk_drewN ?_ _ | refine blk_drew ?_ | refine blk_alloc ?_ _)); refine blk_far ?_ NB101_108.out _; (with_reducible repeat (first | refine blk_drewN ?_ _ | refine blk_drew ?_ | refine blk_alloc ?_ _)); refine blk_far ?_ NB101_108.out _; (with_reducible repeat (first | refine blk_drewN ?_ _ | refine blk_drew ?_ | refine blk_alloc ?_ _)); exact BK101.out⟩, ⟨by (with_reducible repeat (first | refine blk_drewN ?_ _ | refine blk_drew ?_ | refine blk_alloc ?_ _)); refine blk_far ?_ NB102_108.out _; (with_reducible repeat (first | refine blk_drewN ?_ _ | refine blk_drew ?_ | refine blk_alloc ?_ _)); refine blk_far ?_ NB102_108.out _; (with_reducible repeat (first | refine blk_drewN ?_ _ | refine blk_drew ?_ | refine blk_alloc ?_ _)); exact BK102.out⟩, ⟨by (with_reducible repeat (first | refine blk_drewN ?_ _ | refine blk_drew ?_ | refine blk_alloc ?_ _)); refine blk_put (cs := #[.int .i64 t114, .slice Ao26 x109001_1.length co26]) ?_ 1 _ rfl; (with_reducible repeat (first | refine blk_drewN ?_ _ | refine blk_drew ?_ | refine blk_alloc ?_ _)); refine blk_put (cs := #[.int .i64 x109000_1, .slice Ao26 x109001_1.length co26]) ?_ 0 _ rfl; (with_reducible repeat (first | refine blk_drewN ?_ _ | refine blk_drew ?_ | refine blk_alloc ?_ _)); exact BK108.out⟩, ⟨by repeat (first | (with_reducible first | exact HB.out | apply below_alloc | apply pw_below_drewN | apply below_drew1 | refine below_set ?_ GE101.out | refine below_set ?_ GE102.out | refine below_set ?_ GE108.out) | exact HB.out)⟩⟩
     ·rw [if_neg c18] at H
      exact absurd H (by simp)
    ·rw [if_neg c17] at H
     have c17b0 : decide (x5_1 < (l0_1.length : Int)) = false := decide_eq_false c17
     clear c17
     simp only [Option.some.injEq, Prod.mk.injEq] at H
     obtain ⟨rfl, rfl, rfl⟩ := H
     have hnb32 := NB101_102.out
     have hnc32 := NB102_101.out
     have hnb33 := NB101_108.out
     have hnc33 := NB108_101.out
     have hcz34_0 : wr.cell? ⟨gb101, 0, none⟩ = some (.int .i64 a0_0) := (blk_cell BK101.out 0).trans rfl
     have hcz34_1 : wr.cell? ⟨gb101, 1, none⟩ = some (.slice A0_1 l0_1.length c0_1) := (blk_cell BK101.out 1).trans rfl
     have hfz34_0 := blk_frozen BK101.out 0
     have hfz34_1 := blk_frozen BK101.out 1
     have hnb35 := NB108_102.out
     have hnc35 := NB102_108.out
     have hcz36_0 : wr.cell? ⟨gb108, 0, none⟩ = some (.int .i64 x109000_1) := (blk_cell BK108.out 0).trans rfl
     have hcz36_1 : wr.cell? ⟨gb108, 1, none⟩ = some (u109001) := (blk_cell BK108.out 1).trans rfl
     have hfz36_0 := blk_frozen BK108.out 0
     have hfz36_1 := blk_frozen BK108.out 1
     have hcz37_0 : wr.cell? ⟨gb102, 0, none⟩ = some (.int .i64 0) := (blk_cell BK102.out 0).trans rfl
     have hcz37_1 : wr.cell? ⟨gb102, 1, none⟩ = some (.slice none 0 0) := (blk_cell BK102.out 1).trans rfl
     have hfz37_0 := blk_frozen BK102.out 0
     have hfz37_1 := blk_frozen BK102.out 1
     obtain ⟨Ao38, co38, eo38⟩ := Kd.S_slice HO_109001.out
     subst eo38
     go_wp2
     refine bodyPost_ret (results_ct rfl _ _ gb102 49 #[.int .i64 x109000_1, .slice Ao38 x109001_1.length co38] (0, 0) _ rfl (by (with_reducible repeat (first | refine blk_drewN ?_ _ | refine blk_drew ?_ | refine blk_alloc ?_ _)); refine blk_put (cs := #[.int .i64 x109000_1, .slice none 0 0]) ?_ 1 _ rfl; (with_reducible repeat (first | refine blk_drewN ?_ _ | refine blk_drew ?_ | refine blk_alloc ?_ _)); refine blk_put (cs := #[.int .i64 0, .slice none 0 0]) ?_ 0 _ rfl; (with_reducible repeat (first | refine blk_drewN ?_ _ | refine blk_drew ?_ | refine blk_alloc ?_ _)); exact BK102.out) Try.underlying49 rfl (by kernel_rfl)) rfl ?_
     exact ⟨_, by first | rfl | (simp [errW_none, errW_some] <;> rfl) | (simp [*, errW_none, errW_some] <;> rfl), by (with_reducible repeat (first | apply Kd.S_alloc | apply Kd.S_drewN | apply Kd.S_drew)); exact Kd.S_mono (Kd.S_far (p := ⟨gb102, 1, none⟩) (Kd.S_far (p := ⟨gb102, 0, none⟩) (Kd.S_types HO_109001.out BK102.out (by decide)) (fun _ hk => hk.2) (.int .i64 x109000_1)) (fun _ hk => hk.2) (.slice Ao38 x109001_1.length co38)) (fun _ hk => trivial), by repeat (first | (with_reducible first | exact HB.out | apply below_alloc | apply pw_below_drewN | apply below_drew1 | refine below_set ?_ GE101.out | refine below_set ?_ GE102.out | refine below_set ?_ GE108.out) | exact HB.out)⟩
 ·replace c3 := Bool.eq_false_iff.mpr c3
  subst c3
  have H1 : (some (0, ([] : List (S89)), 1)) = some (r1, r2, r3) := by rw [if_neg (show ¬ (false = true) by decide)] at H; exact H
  clear H
  have H := H1
  clear H1
  simp only [Option.some.injEq, Prod.mk.injEq] at H
  obtain ⟨rfl, rfl, rfl⟩ := H
  go_enter Try.func46, Try.ntmps46
  go_wp2_with (first | ((with_reducible refine gate_dst (N := 1) rfl ?_); refine box_event ?hg (N := 1) ?hd (cs := #[.int .i64 a0_0, .slice A0_1 l0_1.length c0_1]) (t := 49) ?hr ?_; (case hd => rfl); (case hg => rfl); (case hr => first | (go_simp; done) | (go_simp; rfl)); intro gb101 hg w39 hbox hb; have n0_ := Aside0.mk (below_step (by repeat (first | (with_reducible first | exact HB.out | apply below_alloc | apply pw_below_drewN | apply below_drew1) | exact HB.out)) hb); have n1_ := Aside0.mk (hbox); have n2_ := Aside0.mk ((by rw [hg]; exact (below_size (by repeat (first | (with_reducible first | exact HB.out | apply below_alloc | apply pw_below_drewN | apply below_drew1) | exact HB.out))) : w.heap.size ≤ gb101)); have n3_ := Aside0.mk ((by rw [hg]; exact (below_size (by repeat (first | (with_reducible first | exact HB.out | apply below_alloc | apply pw_below_drewN | apply below_drew1) | exact HB.out))) : w.heap.size ≤ gb101)); clear HB; have HB := n0_; have BK101 := n1_; have GW101 := n2_; have GE101 := n3_; clear n0_ n1_ n2_ n3_; clear hb hbox hg) | ((with_reducible refine gate_dst (N := 2) rfl ?_); refine box_event ?hg (N := 2) ?hd (cs := #[.int .i64 0, .slice none 0 0]) (t := 49) ?hr ?_; (case hd => rfl); (case hg => rfl); (case hr => first | (go_simp; done) | (go_simp; rfl)); intro gb102 hg w40 hbox hb; have n0_ := Aside0.mk (blk_below (g := gb101) (o := .cells #[.int .i64 a0_0, .slice A0_1 l0_1.length c0_1] 49 (0, 0)) (by (with_reducible repeat (first | refine blk_drewN ?_ _ | refine blk_drew ?_ | refine blk_alloc ?_ _)); exact BK101.out) hb); have n1_ := Aside0.mk (below_step (by repeat (first | (with_reducible first | exact HB.out | apply below_alloc | apply pw_below_drewN | apply below_drew1 | refine below_set ?_ GE101.out) | exact HB.out)) hb); have n2_ := Aside0.mk (hbox); have n3_ := Aside0.mk ((by rw [hg]; exact (below_size (by repeat (first | (with_reducible first | exact HB.out | apply below_alloc | apply pw_below_drewN | apply below_drew1 | refine below_set ?_ GE101.out) | exact HB.out))) : w.heap.size ≤ gb102)); have n4_ := Aside0.mk ((by rw [hg]; exact (below_size (by repeat (first | (with_reducible first | exact HB.out | apply below_alloc | apply pw_below_drewN | apply below_drew1 | refine below_set ?_ GE101.out) | exact HB.out))) : w.heap.size ≤ gb102)); have n5_ := Aside0.mk ((by rw [hg]; exact Nat.ne_of_lt (blk_lt (g := gb101) (o := .cells #[.int .i64 a0_0, .slice A0_1 l0_1.length c0_1] 49 (0, 0)) (by (with_reducible repeat (first | refine blk_drewN ?_ _ | refine blk_drew ?_ | refine blk_alloc ?_ _)); exact BK101.out)) : gb101 ≠ gb102)); have n6_ := Aside0.mk ((by rw [hg]; exact Nat.ne_of_gt (blk_lt (g := gb101) (o := .cells #[.int .i64 a0_0, .slice A0_1 l0_1.length c0_1] 49 (0, 0)) (by (with_reducible repeat (first | refine blk_drewN ?_ _ | refine blk_drew ?_ | refine blk_alloc ?_ _)); exact BK101.out)) : gb102 ≠ gb101)); clear BK101; clear HB; have BK101 := n0_; have HB := n1_; have BK102 := n2_; have GW102 := n3_; have GE102 := n4_; have NB101_102 := n5_; have NB102_101 := n6_; clear n0_ n1_ n2_ n3_ n4_ n5_ n6_; clear hb hbox hg; have hnb41 := NB101_102.out; have hnc41 := NB102_101.out; have hcz42_0 : w40.cell? ⟨gb101, 0, none⟩ = some (.int .i64 a0_0) := (blk_cell BK101.out 0).trans rfl; have hcz42_1 : w40.cell? ⟨gb101, 1, none⟩ = some (.slice A0_1 l0_1.length c0_1) := (blk_cell BK101.out 1).trans rfl; have hfz42_0 := blk_frozen BK101.out 0; have hfz42_1 := blk_frozen BK101.out 1) | ((with_reducible refine gate_callee (f := 77) rfl ?_); refine goesL_ (some 7) rfl rfl Try.func77 (by kernel_rfl) rfl #[.agg #[.int .i64 a0_0, .slice A0_1 l0_1.length c0_1]] rfl (by (try simp only [List.map_toArray, List.map_cons, List.map_nil]); first | done | rfl | (simp only [List.length_drop, List.length_take]; rfl)) ?_; (with_reducible refine (spec_l03Is.calls k a0_0 _ _ l0_1 false _ ?side1 ?side2 A2.out).mono ?_); (case side1 => repeat (first | exact (Kd.C_below HR0_1.out HB.out) | (with_reducible refine Kd.C_alloc ?_ _) | (with_reducible refine Kd.C_drewN ?_ _) | (with_reducible refine Kd.C_drew ?_))); (case side2 => exact HC0_1.out); rintro e w43 ⟨rfl, hb⟩; refine ⟨_, rfl, ?_⟩; have n0_ := Aside0.mk (blk_below (g := gb101) (o := .cells #[.int .i64 a0_0, .slice A0_1 l0_1.length c0_1] 49 (0, 0)) (by (with_reducible repeat (first | refine blk_drewN ?_ _ | refine blk_drew ?_ | refine blk_alloc ?_ _)); exact BK101.out) hb); have n1_ := Aside0.mk (blk_below (g := gb102) (o := .cells #[.int .i64 0, .slice none 0 0] 49 (0, 0)) (by (with_reducible repeat (first | refine blk_drewN ?_ _ | refine blk_drew ?_ | refine blk_alloc ?_ _)); exact BK102.out) hb); have n2_ := Aside0.mk (below_step (by repeat (first | (with_reducible first | exact HB.out | apply below_alloc | apply pw_below_drewN | apply below_drew1 | refine below_set ?_ GE101.out | refine below_set ?_ GE102.out) | exact HB.out)) hb); clear BK101; clear BK102; clear HB; have BK101 := n0_; have BK102 := n1_; have HB := n2_; clear n0_ n1_ n2_; (try clear hb); (try clear hb2); (try clear hk); (try clear hi); have hcz44_0 : w43.cell? ⟨gb102, 0, none⟩ = some (.int .i64 0) := (blk_cell BK102.out 0).trans rfl; have hcz44_1 : w43.cell? ⟨gb102, 1, none⟩ = some (.slice none 0 0) := (blk_cell BK102.out 1).trans rfl; have hfz44_0 := blk_frozen BK102.out 0; have hfz44_1 := blk_frozen BK102.out 1))
  refine bodyPost_ret (results_ct rfl _ _ gb102 49 #[.int .i64 0, .slice none 0 0] (0, 0) _ rfl (by (with_reducible repeat (first | refine blk_drewN ?_ _ | refine blk_drew ?_ | refine blk_alloc ?_ _)); refine blk_put (cs := #[.int .i64 0, .slice none 0 0]) ?_ 1 _ rfl; (with_reducible repeat (first | refine blk_drewN ?_ _ | refine blk_drew ?_ | refine blk_alloc ?_ _)); refine blk_put (cs := #[.int .i64 0, .slice none 0 0]) ?_ 0 _ rfl; (with_reducible repeat (first | refine blk_drewN ?_ _ | refine blk_drew ?_ | refine blk_alloc ?_ _)); exact BK102.out) Try.underlying49 rfl (by kernel_rfl)) rfl ?_
  exact ⟨_, by first | rfl | (simp [errW_none, errW_some] <;> rfl) | (simp [*, errW_none, errW_some] <;> rfl), by first | exact Kd.S_nil _ _ _ _ _ | exact Kd.N_nil _ _ _ _ _ | exact Kd.V_nil _ _ _ _ _ | exact Kd.Q_nil _ _ _ _ _ | exact Kd.R_nil _ _ _ _ _, by repeat (first | (with_reducible first | exact HB.out | apply below_alloc | apply pw_below_drewN | apply below_drew1 | refine below_set ?_ GE101.out | refine below_set ?_ GE102.out) | exact HB.out)⟩

/-! ### impl_ReflectSum: function 47, by hand -/

/-- A word read from its end, renamed. -/
def reflT (l : List Int) : List Int := normalL l.reverse

set_option maxHeartbeats 4000000 in
set_option maxRecDepth 100000 in
theorem impl_ReflectSum_1.calls (p : Int) (A : Option Addr) (c : Nat) (xs : List S89) (w : World) (hr : Kd.C k89 w A xs.length xs) (hc : xs.length ≤ c) (hp : 0 < p ∧ p ≤ 1000) (hl : xs.length ≤ 1000) (ho : ∀ x ∈ xs, okW (reflT x.f0) ∧ (-1000000 ≤ x.f1 ∧ x.f1 ≤ 1000000)) (hf : ∀ x ∈ xs, ∃ k, impl_reflected.f k x.f0 = some (reflT x.f0)) :
  Calls Try.prog 93 #[.agg #[.int .i64 p, .slice A xs.length c]] w fun e w' => ∃ v, e = .returned (.agg #[.int .i64 p, v]) ∧ Kd.S k89 89 w' w.heap.size (fun _ => True) v (nzT (chgZ p (fun l => oneT p (reflT l)) [] xs)) ∧ Below w.heap.size w w' := by
 have hu49 := Try.underlying49
 have HR := Aside0.mk hr
 have HC := Aside0.mk hc
 have HP := Aside0.mk hp
 have HL := Aside0.mk hl
 have HO := Aside0.mk ho
 have HF := Aside0.mk hf
 have k4 := blk_new (w.alloc (.cells #[.int .i64 p, .slice A xs.length c] 49)) (.cells #[.int .i64 0, .slice none 0 0] 49)
 have s4 : (w.alloc (.cells #[.int .i64 p, .slice A xs.length c] 49)).heap.size = w.heap.size + 1 := by simp
 rw [s4] at k4
 have KR0 := Aside0.mk k4
 have HB0 := Aside0.mk (below_alloc (below_alloc (Below.refl w.heap.size w) (.cells #[.int .i64 p, .slice A xs.length c] 49)) (.cells #[.int .i64 0, .slice none 0 0] 49))
 clear hr hc hp hl ho hf k4 s4
 obtain ⟨yy, hyy⟩ : ∃ y_ : List S89, y_ = nzT (chgZ p (fun l => oneT p (reflT l)) [] xs) := ⟨_, rfl⟩
 rw [← hyy]
 have NY := Aside0.mk hyy
 clear hyy
 go_enter Try.func93, Try.ntmps93
 go_wp2_with fail
 generalize (w.alloc (.cells #[.int .i64 p, .slice A xs.length c] 49)).alloc (.cells #[.int .i64 0, .slice none 0 0] 49) = w1 at KR0 HB0 ⊢
 refine (impl_renamed.calls 95 Try.f95 Try.func95 (by kernel_rfl) rfl #[] (fun l => reflT l) p A c xs w1 (Kd.C_below HR.out HB0.out) HC.out HP.out HL.out HO.out ?_).mono ?_
 ·intro x A' c' w' hx hb hC hcc
  obtain ⟨k, hk⟩ := HF.out x hx
  show Calls Try.prog 95 #[.slice A' x.f0.length c'] w' _
  exact impl_reflected.calls k _ _ x.f0 _ w' hC hcc hk
 ·rintro e w5 ⟨v5, rfl, hS5, hb5⟩
  have HS5 := Aside0.mk (Kd.S_lower hS5 HB0.out.size)
  have HB5 := Aside0.mk (below_step HB0.out hb5)
  have KR5 := Aside0.mk (blk_below KR0.out hb5)
  clear hS5 hb5
  obtain ⟨B4, e4⟩ : ∃ x, x = w.heap.size + 1 := ⟨_, rfl⟩
  have g4 : w.heap.size ≤ B4 := by omega
  rw [← e4] at KR5 ⊢
  clear e4
  rw [← NY.out] at HS5
  have hq0 : w5.cell? ⟨B4, 0, none⟩ = some (.int .i64 0) := (blk_cell KR5.out 0).trans rfl
  have hq1 : w5.cell? ⟨B4, 1, none⟩ = some (.slice none 0 0) := (blk_cell KR5.out 1).trans rfl
  have hf0 := blk_frozen KR5.out 0
  have hf1 := blk_frozen KR5.out 1
  obtain ⟨Au, cu, eu⟩ := Kd.S_slice HS5.out
  subst eu
  go_wp2
  refine bodyPost_ret (results_cell_row rfl _ _ B4 49 #[.int .i64 p, .slice Au yy.length cu] (0, 0) _ rfl (by refine blk_put (cs := #[.int .i64 p, .slice none 0 0]) ?_ 1 _ rfl; refine blk_put (cs := #[.int .i64 0, .slice none 0 0]) ?_ 0 _ rfl; exact KR5.out) Try.underlying49 rfl (by kernel_rfl)) rfl ?_
  exact ⟨_, rfl, Kd.S_set (Kd.S_set HS5.out KR5.out (by decide) 0 _) (blk_put KR5.out 0 _ rfl) (by decide) 1 _, below_set (below_set HB5.out g4) g4⟩

open Classical in
/-- What the program's ReflectSum answers. -/
noncomputable def impl_ReflectSum.f (k : Nat) (p : Int) (xs : List S89) : Option (Int × List S89 × Int) := (impl_IsSum.f k p xs).bind fun b => if b = true then (if (0 < p ∧ p ≤ 1000) ∧ xs.length ≤ 1000 ∧ (∀ x ∈ xs, okW (reflT x.f0) ∧ (-1000000 ≤ x.f1 ∧ x.f1 ≤ 1000000)) ∧ (∀ x ∈ xs, ∃ k, impl_reflected.f k x.f0 = some (reflT x.f0)) then some (limR p (nzT (chgZ p (fun l => oneT p (reflT l)) [] xs))) else none) else some (0, [], 1)
set_option maxHeartbeats 4000000 in
set_option maxRecDepth 100000 in
theorem impl_ReflectSum.calls (k : Nat) (p : Int) (A : Option Addr) (c : Nat) (xs : List S89) (r1 : Int) (r2 : List S89) (r3 : Int) (w : World) (hr : Kd.C k89 w A xs.length xs) (hc : xs.length ≤ c) (h : impl_ReflectSum.f k p xs = some (r1, r2, r3)) :
  Calls Try.prog 47 #[.agg #[.int .i64 p, .slice A xs.length c]] w fun e w' => ∃ v, e = .returned (.tuple #[.agg #[.int .i64 r1, v], .int .i64 r3]) ∧ Kd.S k89 89 w' w.heap.size (fun _ => True) v r2 ∧ Below w.heap.size w w' := by
 unfold impl_ReflectSum.f at h
 obtain ⟨b, hs, h⟩ := Option.bind_eq_some_iff.mp h
 obtain ⟨R, hR, hcl⟩ : ∃ R, csR b p R = (r1, r2, r3) ∧ (b = true → ∀ w' : World, Below w.heap.size w w' → Calls Try.prog 93 #[.agg #[.int .i64 p, .slice A xs.length c]] w' fun e w'' => ∃ v, e = .returned (.agg #[.int .i64 p, v]) ∧ Kd.S k89 89 w'' w'.heap.size (fun _ => True) v R ∧ Below w'.heap.size w' w'') := by
  cases b
  ·rw [if_neg (by simp)] at h
   exact ⟨[], Option.some.inj h, fun h => by cases h⟩
  ·rw [if_pos rfl] at h
   split at h
   ·rename_i hq
    exact ⟨_, Option.some.inj h, fun _ w' hb => impl_ReflectSum_1.calls p A c xs w' (Kd.C_below hr hb) hc hq.1 hq.2.1 hq.2.2.1 hq.2.2.2⟩
   ·cases h
 have hu49 := Try.underlying49
 have HR := Aside0.mk hr
 have HC := Aside0.mk hc
 have HS := Aside0.mk hs
 have HCL := Aside0.mk hcl
 have HCR := Aside0.mk hR
 have k4 := blk_new (w.alloc (.cells #[.int .i64 p, .slice A xs.length c] 49)) (.cells #[.int .i64 0, .slice none 0 0] 49)
 have s4 : (w.alloc (.cells #[.int .i64 p, .slice A xs.length c] 49)).heap.size = w.heap.size + 1 := by simp
 rw [s4] at k4
 have KR0 := Aside0.mk k4
 have HB0 := Aside0.mk (below_alloc (below_alloc (Below.refl w.heap.size w) (.cells #[.int .i64 p, .slice A xs.length c] 49)) (.cells #[.int .i64 0, .slice none 0 0] 49))
 clear hr hc hs hcl hR h k4 s4
 go_enter Try.func47, Try.ntmps47
 go_wp2_with fail
 generalize (w.alloc (.cells #[.int .i64 p, .slice A xs.length c] 49)).alloc (.cells #[.int .i64 0, .slice none 0 0] 49) = w1 at KR0 HB0 ⊢
 refine (impl_changedSum.calls 93 Try.f93 Try.func93 (by kernel_rfl) rfl k p A c xs b R w1 (Kd.C_below HR.out HB0.out) HC.out HS.out (fun h w' hb => HCL.out h w' (below_step HB0.out hb))).mono ?_
 rw [HCR.out]
 rintro e w5 ⟨v5, rfl, hS5, hb5⟩
 have HS5 := Aside0.mk (show Kd.S k89 89 w5 w.heap.size (fun _ => True) v5 r2 from Kd.S_lower hS5 HB0.out.size)
 have HB5 := Aside0.mk (below_step HB0.out hb5)
 have KR5 := Aside0.mk (blk_below KR0.out hb5)
 clear hS5 hb5
 obtain ⟨B4, e4⟩ : ∃ x, x = w.heap.size + 1 := ⟨_, rfl⟩
 have g4 : w.heap.size ≤ B4 := by omega
 rw [← e4] at KR5 ⊢
 clear e4
 have hq0 : w5.cell? ⟨B4, 0, none⟩ = some (.int .i64 0) := (blk_cell KR5.out 0).trans rfl
 have hq1 : w5.cell? ⟨B4, 1, none⟩ = some (.slice none 0 0) := (blk_cell KR5.out 1).trans rfl
 have hf0 := blk_frozen KR5.out 0
 have hf1 := blk_frozen KR5.out 1
 obtain ⟨Au, cu, eu⟩ := Kd.S_slice HS5.out
 subst eu
 go_wp2
 refine bodyPost_ret (results_ct rfl _ _ B4 49 #[.int .i64 r1, .slice Au r2.length cu] (0, 0) _ rfl (by refine blk_put (cs := #[.int .i64 r1, .slice none 0 0]) ?_ 1 _ rfl; refine blk_put (cs := #[.int .i64 0, .slice none 0 0]) ?_ 0 _ rfl; exact KR5.out) Try.underlying49 rfl (by kernel_rfl)) rfl ?_
 exact ⟨_, rfl, Kd.S_set (Kd.S_set HS5.out KR5.out (by decide) 0 _) (blk_put KR5.out 0 _ rfl) (by decide) 1 _, below_set (below_set HB5.out g4) g4⟩

/-! ### laws_FnExactReflectSum: function 12, by hand -/
theorem laws_FnExactReflectSum.range {w0 W w' : World} {v : Value} {r : List S89} (h : Kd.S k89 89 w' W.heap.size (fun _ => True) v r) (hb : w0.heap.size ≤ W.heap.size) : Kd.S k89 89 w' w0.heap.size (fun k_ => W.heap.size ≤ k_ ∧ k_ < w'.heap.size) v r := Kd.S_lower (Kd.S_mono (Kd.S_bound h) (fun k_ h_ => ⟨h_.2.1, h_.2.2.1⟩)) hb
def laws_FnExactReflectSum.Told (z0 : Int) (l0 : List S110) (k : Nat) (c m g0 : Int) (g1 p1 : List S89) (s0 m10 : Int) (y0 q0 : List S89) : Prop :=
 laws_toSum.f k z0 l0 = some (z0, y0) ∧ laws_eqSum.f k z0 y0 z0 y0 = some true ∧ laws_szSum.f k z0 l0 1048576 = some s0 ∧ spec_ReflectSum.f k z0 y0 = some (g0, g1, c) ∧ impl_ReflectSum.f k z0 y0 = some (g0, g1, c) ∧ laws_eqSum.f k g0 g1 g0 g1 = some true ∧ laws_markSum.f k y0 1 = some (m10, q0) ∧ laws_markSum.f k g1 1 = some (m, p1) ∧ laws_heldSum.f k g0 p1 1 = some m ∧ 0 ≤ m ∧ 0 ≤ m10 ∧ 0 ≤ s0
set_option maxHeartbeats 16000000 in
set_option maxRecDepth 100000 in
theorem laws_FnExactReflectSum.one (A0 : Option Addr) (c0 : Nat) (z0 : Int) (l0 : List S110) (w : World) (hr0 : Kd.C k110 w A0 l0.length l0) (hc0 : l0.length ≤ c0) (k : Nat) (c m g0 : Int) (g1 p1 : List S89) (s0 m10 : Int) (y0 q0 : List S89) (h : laws_FnExactReflectSum.Told z0 l0 k c m g0 g1 p1 s0 m10 y0 q0) :
  Calls Try.prog 12 #[.agg #[.int .i64 z0, .slice A0 l0.length c0]] w fun e w' => e = .returned (.bool true) ∧ Below w.heap.size w w' := by
 have huB := Try.underlying49
 have huA := Try.underlying44
 obtain ⟨h_FT0, h_FQ0, h_FZ0, h_FS, h_FI, h_FE, h_FK0, h_FM, h_FH, hb_0, hb_1, hb_2⟩ := h
 have FT0 := Aside0.mk h_FT0
 clear h_FT0
 have FQ0 := Aside0.mk h_FQ0
 clear h_FQ0
 have FZ0 := Aside0.mk h_FZ0
 clear h_FZ0
 have FS := Aside0.mk h_FS
 clear h_FS
 have FI := Aside0.mk h_FI
 clear h_FI
 have FE := Aside0.mk h_FE
 clear h_FE
 have FK0 := Aside0.mk h_FK0
 clear h_FK0
 have FM := Aside0.mk h_FM
 clear h_FM
 have FH := Aside0.mk h_FH
 clear h_FH
 have d3 : decide (m < 0) = false := decide_eq_false (by omega)
 have d2 : decide (m10 < 0) = false := decide_eq_false (by omega)
 have ds0 : decide (s0 < 0) = false := decide_eq_false (by omega)
 clear hb_0 hb_1 hb_2
 have HB := Aside0.mk (Below.refl w.heap.size w)
 have HA0 := Aside0.mk hr0
 have HC0 := Aside0.mk hc0
 clear hr0 hc0
 have HW0 := HB
 go_enter Try.func12, Try.ntmps12
 have hn_P0_0 : (w.alloc (.cells #[.int .i64 z0, .slice A0 l0.length c0] 44)).cell? ⟨w.heap.size, 0, none⟩ = some (.int .i64 z0) := (blk_cell (blk_new w (.cells #[.int .i64 z0, .slice A0 l0.length c0] 44)) 0).trans rfl
 have hn_P0_1 : (w.alloc (.cells #[.int .i64 z0, .slice A0 l0.length c0] 44)).cell? ⟨w.heap.size, 1, none⟩ = some (.slice A0 l0.length c0) := (blk_cell (blk_new w (.cells #[.int .i64 z0, .slice A0 l0.length c0] 44)) 1).trans rfl
 go_wp2_with fail
 obtain ⟨w1, h_⟩ : ∃ x_ : World, w.alloc (.cells #[.int .i64 z0, .slice A0 l0.length c0] 44) = x_ := ⟨_, rfl⟩
 rw [h_]
 have B_ : Aside0 (Below w.heap.size w w1) := ⟨by rw [← h_]; exact below_alloc (Below.refl _ _) _⟩
 have KP0 : Aside0 (w1.heap[w.heap.size]? = some (.cells #[.int .i64 z0, .slice A0 l0.length c0] 44 (0, 0))) := ⟨by rw [← h_]; exact blk_new _ _⟩
 clear h_
 have n_ := Aside0.mk (below_step HB.out B_.out)
 clear HB
 have HB := n_
 clear n_
 have Z0 := Aside0.mk (B_.out).size
 clear B_
 have Z1 := Aside0.mk (blk_lt KP0.out)
 refine (laws_szSum.calls k z0 _ _ l0 1048576 s0 _ (Kd.C_below HA0.out HB.out) HC0.out FZ0.out).mono ?_
 rintro e w2 ⟨rfl, hb⟩
 clear hn_P0_0 hn_P0_1
 have B_ := Aside0.mk hb
 clear hb
 have n_ := Aside0.mk (blk_below KP0.out B_.out)
 clear KP0
 have KP0 := n_
 clear n_
 have n_ := Aside0.mk (below_step HB.out B_.out)
 clear HB
 have HB := n_
 clear n_
 have Z2 := Aside0.mk (B_.out).size
 clear B_
 have hz_P0_0_0 : w2.cell? ⟨w.heap.size, 0, none⟩ = some (.int .i64 z0) := (blk_cell (KP0.out) 0).trans rfl
 have hz_P0_1_1 : w2.cell? ⟨w.heap.size, 1, none⟩ = some (.slice A0 l0.length c0) := (blk_cell (KP0.out) 1).trans rfl
 go_wp2_with fail
 refine (laws_toSum.calls k z0 _ _ l0 z0 y0 _ (Kd.C_below HA0.out HB.out) HC0.out FT0.out).mono ?_
 rintro e w3 ⟨v_, rfl, ho, hb⟩
 clear hz_P0_0_0 hz_P0_1_1
 have Sa0_ := Aside0.mk (laws_FnExactReflectSum.range ho HB.out.size)
 have B_ := Aside0.mk hb
 clear ho hb
 have n_ := Aside0.mk (blk_below KP0.out B_.out)
 clear KP0
 have KP0 := n_
 clear n_
 have n_ := Aside0.mk (below_step HB.out B_.out)
 clear HB
 have HB := n_
 clear n_
 have Z3 := Aside0.mk (B_.out).size
 clear B_
 have Sa0 := Sa0_
 clear Sa0_
 obtain ⟨Aa0, ca0, e_⟩ := Kd.S_slice Sa0.out
 subst e_
 have hz_P0_0_0 : w3.cell? ⟨w.heap.size, 0, none⟩ = some (.int .i64 z0) := (blk_cell (KP0.out) 0).trans rfl
 have hz_P0_1_1 : w3.cell? ⟨w.heap.size, 1, none⟩ = some (.slice A0 l0.length c0) := (blk_cell (KP0.out) 1).trans rfl
 go_wp2_with fail
 refine (spec_ReflectSum.calls k z0 _ _ y0 g0 g1 c _ (Kd.S_reads' Sa0.out).2.2 (Kd.S_reads' Sa0.out).2.1 FS.out).mono ?_
 rintro e w4 ⟨v_, rfl, ho, hb⟩
 clear hz_P0_0_0 hz_P0_1_1
 have SW_ := Aside0.mk (laws_FnExactReflectSum.range ho HB.out.size)
 have B_ := Aside0.mk hb
 clear ho hb
 have n_ := Aside0.mk (blk_below KP0.out B_.out)
 clear KP0
 have KP0 := n_
 clear n_
 have n_ := Aside0.mk (Kd.S_below Sa0.out B_.out)
 clear Sa0
 have Sa0 := n_
 clear n_
 have n_ := Aside0.mk (below_step HB.out B_.out)
 clear HB
 have HB := n_
 clear n_
 have Z4 := Aside0.mk (B_.out).size
 clear B_
 have SW := SW_
 clear SW_
 obtain ⟨AW, cW, e_⟩ := Kd.S_slice SW.out
 subst e_
 clear Sa0
 have hz_P0_0_0 : w4.cell? ⟨w.heap.size, 0, none⟩ = some (.int .i64 z0) := (blk_cell (KP0.out) 0).trans rfl
 have hz_P0_1_1 : w4.cell? ⟨w.heap.size, 1, none⟩ = some (.slice A0 l0.length c0) := (blk_cell (KP0.out) 1).trans rfl
 have ha0_P0_0 : (w4.alloc (.cells #[.int .i64 g0, .slice AW g1.length cW] 49)).cell? ⟨w.heap.size, 0, none⟩ = some (.int .i64 z0) := (blk_cell (blk_alloc (KP0.out) _) 0).trans rfl
 have ha0_P0_1 : (w4.alloc (.cells #[.int .i64 g0, .slice AW g1.length cW] 49)).cell? ⟨w.heap.size, 1, none⟩ = some (.slice A0 l0.length c0) := (blk_cell (blk_alloc (KP0.out) _) 1).trans rfl
 have hn_W_0 : (w4.alloc (.cells #[.int .i64 g0, .slice AW g1.length cW] 49)).cell? ⟨w4.heap.size, 0, none⟩ = some (.int .i64 g0) := (blk_cell (blk_new w4 (.cells #[.int .i64 g0, .slice AW g1.length cW] 49)) 0).trans rfl
 have hn_W_1 : (w4.alloc (.cells #[.int .i64 g0, .slice AW g1.length cW] 49)).cell? ⟨w4.heap.size, 1, none⟩ = some (.slice AW g1.length cW) := (blk_cell (blk_new w4 (.cells #[.int .i64 g0, .slice AW g1.length cW] 49)) 1).trans rfl
 go_wp2_with fail
 obtain ⟨w5, h_⟩ : ∃ x_ : World, w4.alloc (.cells #[.int .i64 g0, .slice AW g1.length cW] 49) = x_ := ⟨_, rfl⟩
 rw [h_]
 have B_ : Aside0 (Below w4.heap.size w4 w5) := ⟨by rw [← h_]; exact below_alloc (Below.refl _ _) _⟩
 have KW : Aside0 (w5.heap[w4.heap.size]? = some (.cells #[.int .i64 g0, .slice AW g1.length cW] 49 (0, 0))) := ⟨by rw [← h_]; exact blk_new _ _⟩
 clear h_
 have n_ := Aside0.mk (blk_below KP0.out B_.out)
 clear KP0
 have KP0 := n_
 clear n_
 have n_ := Aside0.mk (Kd.S_below SW.out B_.out)
 clear SW
 have SW := n_
 clear n_
 have n_ := Aside0.mk (below_step HB.out B_.out)
 clear HB
 have HB := n_
 clear n_
 have Z5 := Aside0.mk (B_.out).size
 clear B_
 have Z6 := Aside0.mk (blk_lt KW.out)
 refine (laws_toSum.calls k z0 _ _ l0 z0 y0 _ (Kd.C_below HA0.out HB.out) HC0.out FT0.out).mono ?_
 rintro e w6 ⟨v_, rfl, ho, hb⟩
 clear hz_P0_0_0 hz_P0_1_1 ha0_P0_0 ha0_P0_1 hn_W_0 hn_W_1
 have Sx0_ := Aside0.mk (laws_FnExactReflectSum.range ho HB.out.size)
 have B_ := Aside0.mk hb
 clear ho hb
 have n_ := Aside0.mk (blk_below KP0.out B_.out)
 clear KP0
 have KP0 := n_
 clear n_
 have n_ := Aside0.mk (blk_below KW.out B_.out)
 clear KW
 have KW := n_
 clear n_
 have n_ := Aside0.mk (Kd.S_below SW.out B_.out)
 clear SW
 have SW := n_
 clear n_
 have n_ := Aside0.mk (below_step HB.out B_.out)
 clear HB
 have HB := n_
 clear n_
 have Z7 := Aside0.mk (B_.out).size
 clear B_
 have Sx0 := Sx0_
 clear Sx0_
 obtain ⟨Ax0, cx0, e_⟩ := Kd.S_slice Sx0.out
 subst e_
 have hz_P0_0_0 : w6.cell? ⟨w.heap.size, 0, none⟩ = some (.int .i64 z0) := (blk_cell (KP0.out) 0).trans rfl
 have hz_P0_1_1 : w6.cell? ⟨w.heap.size, 1, none⟩ = some (.slice A0 l0.length c0) := (blk_cell (KP0.out) 1).trans rfl
 have hz_W_0_2 : w6.cell? ⟨w4.heap.size, 0, none⟩ = some (.int .i64 g0) := (blk_cell (KW.out) 0).trans rfl
 have hz_W_1_3 : w6.cell? ⟨w4.heap.size, 1, none⟩ = some (.slice AW g1.length cW) := (blk_cell (KW.out) 1).trans rfl
 have ha0_P0_0 : (w6.alloc (.cells #[.int .i64 z0, .slice Ax0 y0.length cx0] 49)).cell? ⟨w.heap.size, 0, none⟩ = some (.int .i64 z0) := (blk_cell (blk_alloc (KP0.out) _) 0).trans rfl
 have ha0_P0_1 : (w6.alloc (.cells #[.int .i64 z0, .slice Ax0 y0.length cx0] 49)).cell? ⟨w.heap.size, 1, none⟩ = some (.slice A0 l0.length c0) := (blk_cell (blk_alloc (KP0.out) _) 1).trans rfl
 have ha0_W_0 : (w6.alloc (.cells #[.int .i64 z0, .slice Ax0 y0.length cx0] 49)).cell? ⟨w4.heap.size, 0, none⟩ = some (.int .i64 g0) := (blk_cell (blk_alloc (KW.out) _) 0).trans rfl
 have ha0_W_1 : (w6.alloc (.cells #[.int .i64 z0, .slice Ax0 y0.length cx0] 49)).cell? ⟨w4.heap.size, 1, none⟩ = some (.slice AW g1.length cW) := (blk_cell (blk_alloc (KW.out) _) 1).trans rfl
 have hn_X0_0 : (w6.alloc (.cells #[.int .i64 z0, .slice Ax0 y0.length cx0] 49)).cell? ⟨w6.heap.size, 0, none⟩ = some (.int .i64 z0) := (blk_cell (blk_new w6 (.cells #[.int .i64 z0, .slice Ax0 y0.length cx0] 49)) 0).trans rfl
 have hn_X0_1 : (w6.alloc (.cells #[.int .i64 z0, .slice Ax0 y0.length cx0] 49)).cell? ⟨w6.heap.size, 1, none⟩ = some (.slice Ax0 y0.length cx0) := (blk_cell (blk_new w6 (.cells #[.int .i64 z0, .slice Ax0 y0.length cx0] 49)) 1).trans rfl
 go_wp2_with fail
 obtain ⟨w7, h_⟩ : ∃ x_ : World, w6.alloc (.cells #[.int .i64 z0, .slice Ax0 y0.length cx0] 49) = x_ := ⟨_, rfl⟩
 rw [h_]
 have B_ : Aside0 (Below w6.heap.size w6 w7) := ⟨by rw [← h_]; exact below_alloc (Below.refl _ _) _⟩
 have KX0 : Aside0 (w7.heap[w6.heap.size]? = some (.cells #[.int .i64 z0, .slice Ax0 y0.length cx0] 49 (0, 0))) := ⟨by rw [← h_]; exact blk_new _ _⟩
 clear h_
 have n_ := Aside0.mk (blk_below KP0.out B_.out)
 clear KP0
 have KP0 := n_
 clear n_
 have n_ := Aside0.mk (blk_below KW.out B_.out)
 clear KW
 have KW := n_
 clear n_
 have n_ := Aside0.mk (Kd.S_below SW.out B_.out)
 clear SW
 have SW := n_
 clear n_
 have n_ := Aside0.mk (Kd.S_below Sx0.out B_.out)
 clear Sx0
 have Sx0 := n_
 clear n_
 have n_ := Aside0.mk (below_step HB.out B_.out)
 clear HB
 have HB := n_
 clear n_
 have Z8 := Aside0.mk (B_.out).size
 clear B_
 have Z9 := Aside0.mk (blk_lt KX0.out)
 refine (impl_ReflectSum.calls k z0 _ _ y0 g0 g1 c _ (Kd.S_reads' Sx0.out).2.2 (Kd.S_reads' Sx0.out).2.1 FI.out).mono ?_
 rintro e w8 ⟨v_, rfl, ho, hb⟩
 clear hz_P0_0_0 hz_P0_1_1 hz_W_0_2 hz_W_1_3 ha0_P0_0 ha0_P0_1 ha0_W_0 ha0_W_1 hn_X0_0 hn_X0_1
 have Sg_ := Aside0.mk (laws_FnExactReflectSum.range ho HB.out.size)
 have B_ := Aside0.mk hb
 clear ho hb
 have n_ := Aside0.mk (blk_below KP0.out B_.out)
 clear KP0
 have KP0 := n_
 clear n_
 have n_ := Aside0.mk (blk_below KW.out B_.out)
 clear KW
 have KW := n_
 clear n_
 have n_ := Aside0.mk (blk_below KX0.out B_.out)
 clear KX0
 have KX0 := n_
 clear n_
 have n_ := Aside0.mk (Kd.S_below SW.out B_.out)
 clear SW
 have SW := n_
 clear n_
 have n_ := Aside0.mk (Kd.S_below Sx0.out B_.out)
 clear Sx0
 have Sx0 := n_
 clear n_
 have n_ := Aside0.mk (below_step HB.out B_.out)
 clear HB
 have HB := n_
 clear n_
 have Z10 := Aside0.mk (B_.out).size
 clear B_
 have Sg := Sg_
 clear Sg_
 obtain ⟨Ag, cg, e_⟩ := Kd.S_slice Sg.out
 subst e_
 have hz_P0_0_0 : w8.cell? ⟨w.heap.size, 0, none⟩ = some (.int .i64 z0) := (blk_cell (KP0.out) 0).trans rfl
 have hz_P0_1_1 : w8.cell? ⟨w.heap.size, 1, none⟩ = some (.slice A0 l0.length c0) := (blk_cell (KP0.out) 1).trans rfl
 have hz_W_0_2 : w8.cell? ⟨w4.heap.size, 0, none⟩ = some (.int .i64 g0) := (blk_cell (KW.out) 0).trans rfl
 have hz_W_1_3 : w8.cell? ⟨w4.heap.size, 1, none⟩ = some (.slice AW g1.length cW) := (blk_cell (KW.out) 1).trans rfl
 have hz_X0_0_4 : w8.cell? ⟨w6.heap.size, 0, none⟩ = some (.int .i64 z0) := (blk_cell (KX0.out) 0).trans rfl
 have hz_X0_1_5 : w8.cell? ⟨w6.heap.size, 1, none⟩ = some (.slice Ax0 y0.length cx0) := (blk_cell (KX0.out) 1).trans rfl
 have ha0_P0_0 : (w8.alloc (.cells #[.int .i64 g0, .slice Ag g1.length cg] 49)).cell? ⟨w.heap.size, 0, none⟩ = some (.int .i64 z0) := (blk_cell (blk_alloc (KP0.out) _) 0).trans rfl
 have ha0_P0_1 : (w8.alloc (.cells #[.int .i64 g0, .slice Ag g1.length cg] 49)).cell? ⟨w.heap.size, 1, none⟩ = some (.slice A0 l0.length c0) := (blk_cell (blk_alloc (KP0.out) _) 1).trans rfl
 have ha0_W_0 : (w8.alloc (.cells #[.int .i64 g0, .slice Ag g1.length cg] 49)).cell? ⟨w4.heap.size, 0, none⟩ = some (.int .i64 g0) := (blk_cell (blk_alloc (KW.out) _) 0).trans rfl
 have ha0_W_1 : (w8.alloc (.cells #[.int .i64 g0, .slice Ag g1.length cg] 49)).cell? ⟨w4.heap.size, 1, none⟩ = some (.slice AW g1.length cW) := (blk_cell (blk_alloc (KW.out) _) 1).trans rfl
 have ha0_X0_0 : (w8.alloc (.cells #[.int .i64 g0, .slice Ag g1.length cg] 49)).cell? ⟨w6.heap.size, 0, none⟩ = some (.int .i64 z0) := (blk_cell (blk_alloc (KX0.out) _) 0).trans rfl
 have ha0_X0_1 : (w8.alloc (.cells #[.int .i64 g0, .slice Ag g1.length cg] 49)).cell? ⟨w6.heap.size, 1, none⟩ = some (.slice Ax0 y0.length cx0) := (blk_cell (blk_alloc (KX0.out) _) 1).trans rfl
 have hn_G_0 : (w8.alloc (.cells #[.int .i64 g0, .slice Ag g1.length cg] 49)).cell? ⟨w8.heap.size, 0, none⟩ = some (.int .i64 g0) := (blk_cell (blk_new w8 (.cells #[.int .i64 g0, .slice Ag g1.length cg] 49)) 0).trans rfl
 have hn_G_1 : (w8.alloc (.cells #[.int .i64 g0, .slice Ag g1.length cg] 49)).cell? ⟨w8.heap.size, 1, none⟩ = some (.slice Ag g1.length cg) := (blk_cell (blk_new w8 (.cells #[.int .i64 g0, .slice Ag g1.length cg] 49)) 1).trans rfl
 go_wp2_with fail
 obtain ⟨w9, h_⟩ : ∃ x_ : World, w8.alloc (.cells #[.int .i64 g0, .slice Ag g1.length cg] 49) = x_ := ⟨_, rfl⟩
 rw [h_]
 have B_ : Aside0 (Below w8.heap.size w8 w9) := ⟨by rw [← h_]; exact below_alloc (Below.refl _ _) _⟩
 have KG : Aside0 (w9.heap[w8.heap.size]? = some (.cells #[.int .i64 g0, .slice Ag g1.length cg] 49 (0, 0))) := ⟨by rw [← h_]; exact blk_new _ _⟩
 clear h_
 have n_ := Aside0.mk (blk_below KP0.out B_.out)
 clear KP0
 have KP0 := n_
 clear n_
 have n_ := Aside0.mk (blk_below KW.out B_.out)
 clear KW
 have KW := n_
 clear n_
 have n_ := Aside0.mk (blk_below KX0.out B_.out)
 clear KX0
 have KX0 := n_
 clear n_
 have n_ := Aside0.mk (Kd.S_below SW.out B_.out)
 clear SW
 have SW := n_
 clear n_
 have n_ := Aside0.mk (Kd.S_below Sx0.out B_.out)
 clear Sx0
 have Sx0 := n_
 clear n_
 have n_ := Aside0.mk (Kd.S_below Sg.out B_.out)
 clear Sg
 have Sg := n_
 clear n_
 have n_ := Aside0.mk (below_step HB.out B_.out)
 clear HB
 have HB := n_
 clear n_
 have Z11 := Aside0.mk (B_.out).size
 clear B_
 have Z12 := Aside0.mk (blk_lt KG.out)
 refine (laws_eqSum.calls k g0 _ _ g1 g0 _ _ g1 true _ (Kd.S_reads' Sg.out).2.2 (Kd.S_reads' Sg.out).2.1 (Kd.S_reads' SW.out).2.2 (Kd.S_reads' SW.out).2.1 FE.out).mono ?_
 rintro e w10 ⟨rfl, hb⟩
 clear hz_P0_0_0 hz_P0_1_1 hz_W_0_2 hz_W_1_3 hz_X0_0_4 hz_X0_1_5 ha0_P0_0 ha0_P0_1 ha0_W_0 ha0_W_1 ha0_X0_0 ha0_X0_1 hn_G_0 hn_G_1
 have B_ := Aside0.mk hb
 clear hb
 have n_ := Aside0.mk (blk_below KP0.out B_.out)
 clear KP0
 have KP0 := n_
 clear n_
 have n_ := Aside0.mk (blk_below KW.out B_.out)
 clear KW
 have KW := n_
 clear n_
 have n_ := Aside0.mk (blk_below KX0.out B_.out)
 clear KX0
 have KX0 := n_
 clear n_
 have n_ := Aside0.mk (blk_below KG.out B_.out)
 clear KG
 have KG := n_
 clear n_
 have n_ := Aside0.mk (Kd.S_below SW.out B_.out)
 clear SW
 have SW := n_
 clear n_
 have n_ := Aside0.mk (Kd.S_below Sx0.out B_.out)
 clear Sx0
 have Sx0 := n_
 clear n_
 have n_ := Aside0.mk (Kd.S_below Sg.out B_.out)
 clear Sg
 have Sg := n_
 clear n_
 have n_ := Aside0.mk (below_step HB.out B_.out)
 clear HB
 have HB := n_
 clear n_
 have Z13 := Aside0.mk (B_.out).size
 clear B_
 have hz_P0_0_0 : w10.cell? ⟨w.heap.size, 0, none⟩ = some (.int .i64 z0) := (blk_cell (KP0.out) 0).trans rfl
 have hz_P0_1_1 : w10.cell? ⟨w.heap.size, 1, none⟩ = some (.slice A0 l0.length c0) := (blk_cell (KP0.out) 1).trans rfl
 have hz_W_0_2 : w10.cell? ⟨w4.heap.size, 0, none⟩ = some (.int .i64 g0) := (blk_cell (KW.out) 0).trans rfl
 have hz_W_1_3 : w10.cell? ⟨w4.heap.size, 1, none⟩ = some (.slice AW g1.length cW) := (blk_cell (KW.out) 1).trans rfl
 have hz_X0_0_4 : w10.cell? ⟨w6.heap.size, 0, none⟩ = some (.int .i64 z0) := (blk_cell (KX0.out) 0).trans rfl
 have hz_X0_1_5 : w10.cell? ⟨w6.heap.size, 1, none⟩ = some (.slice Ax0 y0.length cx0) := (blk_cell (KX0.out) 1).trans rfl
 have hz_G_0_6 : w10.cell? ⟨w8.heap.size, 0, none⟩ = some (.int .i64 g0) := (blk_cell (KG.out) 0).trans rfl
 have hz_G_1_7 : w10.cell? ⟨w8.heap.size, 1, none⟩ = some (.slice Ag g1.length cg) := (blk_cell (KG.out) 1).trans rfl
 try go_wp2_with fail
 clear hz_P0_0_0 hz_P0_1_1 hz_W_0_2 hz_W_1_3 hz_X0_0_4 hz_X0_1_5 hz_G_0_6 hz_G_1_7
 have B_ : Aside0 (Below w10.heap.size w10 w10.drew) := ⟨below_drew1 (Below.refl _ _)⟩
 have n_ := Aside0.mk (blk_below KP0.out B_.out)
 clear KP0
 have KP0 := n_
 clear n_
 have n_ := Aside0.mk (blk_below KW.out B_.out)
 clear KW
 have KW := n_
 clear n_
 have n_ := Aside0.mk (blk_below KX0.out B_.out)
 clear KX0
 have KX0 := n_
 clear n_
 have n_ := Aside0.mk (blk_below KG.out B_.out)
 clear KG
 have KG := n_
 clear n_
 have n_ := Aside0.mk (Kd.S_below SW.out B_.out)
 clear SW
 have SW := n_
 clear n_
 have n_ := Aside0.mk (Kd.S_below Sx0.out B_.out)
 clear Sx0
 have Sx0 := n_
 clear n_
 have n_ := Aside0.mk (Kd.S_below Sg.out B_.out)
 clear Sg
 have Sg := n_
 clear n_
 have n_ := Aside0.mk (below_step HB.out B_.out)
 clear HB
 have HB := n_
 clear n_
 have Z14 := Aside0.mk (B_.out).size
 clear B_
 refine start_ (n := 5) (S := fun w' => w'.cell? ⟨w6.heap.size, 0, none⟩ = some (.int .i64 z0) ∧ w'.cell? ⟨w6.heap.size, 1, none⟩ = some (.slice Ax0 y0.length cx0) ∧ w'.cell? ⟨w.heap.size, 0, none⟩ = some (.int .i64 z0) ∧ w'.cell? ⟨w.heap.size, 1, none⟩ = some (.slice A0 l0.length c0)) (ds := []) #[false, false, false, false, false] (by kernel_rfl) rfl rfl ⟨(blk_cell KX0.out 0).trans rfl, (blk_cell KX0.out 1).trans rfl, (blk_cell KP0.out 0).trans rfl, (blk_cell KP0.out 1).trans rfl⟩ (fun hHeld => ?_)
 generalize w10.drew = w11 at KP0 KW KX0 KG SW Sx0 Sg HB Z14 hHeld ⊢
 refine take_ (i := 0) (N := some 41) (v := ?_) (a' := ?_) #[true, false, false, false, false] rfl rfl (by kernel_rfl) (fun _ _ _ h => h) (Or.inl ⟨by rfl, ?_⟩) hHeld ?_ ?_
 rotate_left
 ·rintro w' ⟨s0, s1, s2, s3⟩
  go_simp
  with_reducible rfl
 rotate_left
 ·simp only [Act.put, sA, sZ, sS, i64_w, i32_w]
  rfl
 refine take_ (i := 1) (N := some 42) (v := ?_) (a' := ?_) #[true, true, false, false, false] rfl rfl (by kernel_rfl) (fun _ _ _ h => h) (Or.inl ⟨by rfl, ?_⟩) hHeld ?_ ?_
 rotate_left
 ·rintro w' ⟨s0, s1, s2, s3⟩
  go_simp
  with_reducible rfl
 rotate_left
 ·simp only [Act.put, sA, sZ, sS, i64_w, i32_w]
  rfl
 refine one_ (i := 2) (N := some 43) #[true, true, true, false, false] rfl rfl (by kernel_rfl) (by decide) (fun K hK => ?_)
 refine goes_ Try.func35 (by kernel_rfl) rfl #[.agg #[.int .i64 z0, .slice A0 l0.length c0]] (by rfl) rfl rfl (by simp only [List.map_toArray, List.map_cons, List.map_nil]; rfl) ?_
 refine (laws_toSum.calls k z0 _ _ l0 z0 y0 _ (Kd.C_below HA0.out HB.out) HC0.out FT0.out).mono ?_
 rintro e w12 ⟨v_, rfl, ho, hb⟩
 refine ⟨_, rfl, ?_⟩
 have Sq0_ := Aside0.mk (laws_FnExactReflectSum.range ho HB.out.size)
 have B_ := Aside0.mk hb
 clear ho hb
 have n_ := Aside0.mk (blk_below KP0.out B_.out)
 clear KP0
 have KP0 := n_
 clear n_
 have n_ := Aside0.mk (blk_below KW.out B_.out)
 clear KW
 have KW := n_
 clear n_
 have n_ := Aside0.mk (blk_below KX0.out B_.out)
 clear KX0
 have KX0 := n_
 clear n_
 have n_ := Aside0.mk (blk_below KG.out B_.out)
 clear KG
 have KG := n_
 clear n_
 have n_ := Aside0.mk (Kd.S_below SW.out B_.out)
 clear SW
 have SW := n_
 clear n_
 have n_ := Aside0.mk (Kd.S_below Sx0.out B_.out)
 clear Sx0
 have Sx0 := n_
 clear n_
 have n_ := Aside0.mk (Kd.S_below Sg.out B_.out)
 clear Sg
 have Sg := n_
 clear n_
 have n_ := Aside0.mk (below_step HB.out B_.out)
 clear HB
 have HB := n_
 clear n_
 have Z15 := Aside0.mk (B_.out).size
 clear B_
 have Sq0 := Sq0_
 clear Sq0_
 obtain ⟨Aq0, cq0, e_⟩ := Kd.S_slice Sq0.out
 subst e_
 refine hK.out _ _ ⟨(blk_cell KX0.out 0).trans rfl, (blk_cell KX0.out 1).trans rfl, (blk_cell KP0.out 0).trans rfl, (blk_cell KP0.out 1).trans rfl⟩ (fun hHeld => ?_)
 clear hK K
 refine norm_ (a' := ?_) ?_ ?_
 rotate_left
 ·show Act.put _ (some 43) _ = _
  simp only [Act.put, sA, sZ, sS, i64_w, i32_w]
  rfl
 refine one_ (i := 3) (N := some 44) #[true, true, true, true, false] rfl rfl (by kernel_rfl) (by decide) (fun K hK => ?_)
 refine goes_ Try.func37 (by kernel_rfl) rfl #[.agg #[.int .i64 z0, .slice Ax0 y0.length cx0], .agg #[.int .i64 z0, .slice Aq0 y0.length cq0]] (by rfl) rfl rfl (by simp only [List.map_toArray, List.map_cons, List.map_nil]; rfl) ?_
 refine (laws_eqSum.calls k z0 _ _ y0 z0 _ _ y0 true _ (Kd.S_reads' Sx0.out).2.2 (Kd.S_reads' Sx0.out).2.1 (Kd.S_reads' Sq0.out).2.2 (Kd.S_reads' Sq0.out).2.1 FQ0.out).mono ?_
 rintro e w13 ⟨rfl, hb⟩
 refine ⟨_, rfl, ?_⟩
 have B_ := Aside0.mk hb
 clear hb
 have n_ := Aside0.mk (blk_below KP0.out B_.out)
 clear KP0
 have KP0 := n_
 clear n_
 have n_ := Aside0.mk (blk_below KW.out B_.out)
 clear KW
 have KW := n_
 clear n_
 have n_ := Aside0.mk (blk_below KX0.out B_.out)
 clear KX0
 have KX0 := n_
 clear n_
 have n_ := Aside0.mk (blk_below KG.out B_.out)
 clear KG
 have KG := n_
 clear n_
 have n_ := Aside0.mk (Kd.S_below SW.out B_.out)
 clear SW
 have SW := n_
 clear n_
 have n_ := Aside0.mk (Kd.S_below Sx0.out B_.out)
 clear Sx0
 have Sx0 := n_
 clear n_
 have n_ := Aside0.mk (Kd.S_below Sg.out B_.out)
 clear Sg
 have Sg := n_
 clear n_
 have n_ := Aside0.mk (Kd.S_below Sq0.out B_.out)
 clear Sq0
 have Sq0 := n_
 clear n_
 have n_ := Aside0.mk (below_step HB.out B_.out)
 clear HB
 have HB := n_
 clear n_
 have Z16 := Aside0.mk (B_.out).size
 clear B_
 clear Sq0
 refine hK.out _ _ ⟨(blk_cell KX0.out 0).trans rfl, (blk_cell KX0.out 1).trans rfl, (blk_cell KP0.out 0).trans rfl, (blk_cell KP0.out 1).trans rfl⟩ (fun hHeld => ?_)
 clear hK K
 refine norm_ (a' := ?_) ?_ ?_
 rotate_left
 ·show Act.put _ (some 44) _ = _
  simp only [Act.put, sA, sZ, sS, i64_w, i32_w]
  rfl
 refine pure_ (i := 4) (N := some 45) (v := ?_) (a' := ?_) #[true, true, true, true, true] rfl rfl (by kernel_rfl) (fun _ _ _ h => h) (Or.inl ⟨by rfl, ?_⟩) ?_ ?_
 rotate_left
 ·intro w'
  go_simp
  with_reducible rfl
 rotate_left
 ·simp only [Act.put, sA, sZ, sS, i64_w, i32_w]
  rfl
 refine done_ (by kernel_rfl) ?_

 have hz_P0_0_0 : w13.cell? ⟨w.heap.size, 0, none⟩ = some (.int .i64 z0) := (blk_cell (KP0.out) 0).trans rfl
 have hz_P0_1_1 : w13.cell? ⟨w.heap.size, 1, none⟩ = some (.slice A0 l0.length c0) := (blk_cell (KP0.out) 1).trans rfl
 have hz_W_0_2 : w13.cell? ⟨w4.heap.size, 0, none⟩ = some (.int .i64 g0) := (blk_cell (KW.out) 0).trans rfl
 have hz_W_1_3 : w13.cell? ⟨w4.heap.size, 1, none⟩ = some (.slice AW g1.length cW) := (blk_cell (KW.out) 1).trans rfl
 have hz_X0_0_4 : w13.cell? ⟨w6.heap.size, 0, none⟩ = some (.int .i64 z0) := (blk_cell (KX0.out) 0).trans rfl
 have hz_X0_1_5 : w13.cell? ⟨w6.heap.size, 1, none⟩ = some (.slice Ax0 y0.length cx0) := (blk_cell (KX0.out) 1).trans rfl
 have hz_G_0_6 : w13.cell? ⟨w8.heap.size, 0, none⟩ = some (.int .i64 g0) := (blk_cell (KG.out) 0).trans rfl
 have hz_G_1_7 : w13.cell? ⟨w8.heap.size, 1, none⟩ = some (.slice Ag g1.length cg) := (blk_cell (KG.out) 1).trans rfl
 go_wp2_with fail
 refine (laws_markSum.calls k (fun k_ => w5.heap.size ≤ k_ ∧ k_ < w6.heap.size) z0 _ y0 1 m10 q0 w _ HB.out Sx0.out FK0.out).mono ?_
 rintro e w14 ⟨rfl, ho, hb, hk⟩
 clear hz_P0_0_0 hz_P0_1_1 hz_W_0_2 hz_W_1_3 hz_X0_0_4 hz_X0_1_5 hz_G_0_6 hz_G_1_7
 have HBn := Aside0.mk hb
 have HK := Aside0.mk hk
 have SM := Aside0.mk ho
 clear ho hb hk
 have n_ := Aside0.mk (blk_kept KP0.out HK.out (fun hs_ => by obtain ⟨x1_, x2_⟩ := hs_; have := Z0.out; have := Z1.out; have := Z2.out; have := Z3.out; have := Z4.out; have := Z5.out; have := Z6.out; have := Z7.out; have := Z8.out; have := Z9.out; have := Z10.out; have := Z11.out; have := Z12.out; have := Z13.out; have := Z14.out; have := Z15.out; have := Z16.out; omega))
 clear KP0
 have KP0 := n_
 clear n_
 have n_ := Aside0.mk (blk_kept KW.out HK.out (fun hs_ => by obtain ⟨x1_, x2_⟩ := hs_; have := Z0.out; have := Z1.out; have := Z2.out; have := Z3.out; have := Z4.out; have := Z5.out; have := Z6.out; have := Z7.out; have := Z8.out; have := Z9.out; have := Z10.out; have := Z11.out; have := Z12.out; have := Z13.out; have := Z14.out; have := Z15.out; have := Z16.out; omega))
 clear KW
 have KW := n_
 clear n_
 have n_ := Aside0.mk (blk_kept KX0.out HK.out (fun hs_ => by obtain ⟨x1_, x2_⟩ := hs_; have := Z0.out; have := Z1.out; have := Z2.out; have := Z3.out; have := Z4.out; have := Z5.out; have := Z6.out; have := Z7.out; have := Z8.out; have := Z9.out; have := Z10.out; have := Z11.out; have := Z12.out; have := Z13.out; have := Z14.out; have := Z15.out; have := Z16.out; omega))
 clear KX0
 have KX0 := n_
 clear n_
 have n_ := Aside0.mk (blk_kept KG.out HK.out (fun hs_ => by obtain ⟨x1_, x2_⟩ := hs_; have := Z0.out; have := Z1.out; have := Z2.out; have := Z3.out; have := Z4.out; have := Z5.out; have := Z6.out; have := Z7.out; have := Z8.out; have := Z9.out; have := Z10.out; have := Z11.out; have := Z12.out; have := Z13.out; have := Z14.out; have := Z15.out; have := Z16.out; omega))
 clear KG
 have KG := n_
 clear n_
 have n_ := Aside0.mk (Kd.S_kept SW.out HK.out (fun k_ h1_ h2_ => by obtain ⟨x1_, x2_⟩ := h1_; obtain ⟨x3_, x4_⟩ := h2_; have := Z0.out; have := Z1.out; have := Z2.out; have := Z3.out; have := Z4.out; have := Z5.out; have := Z6.out; have := Z7.out; have := Z8.out; have := Z9.out; have := Z10.out; have := Z11.out; have := Z12.out; have := Z13.out; have := Z14.out; have := Z15.out; have := Z16.out; omega))
 clear SW
 have SW := n_
 clear n_
 have n_ := Aside0.mk (Kd.S_kept Sg.out HK.out (fun k_ h1_ h2_ => by obtain ⟨x1_, x2_⟩ := h1_; obtain ⟨x3_, x4_⟩ := h2_; have := Z0.out; have := Z1.out; have := Z2.out; have := Z3.out; have := Z4.out; have := Z5.out; have := Z6.out; have := Z7.out; have := Z8.out; have := Z9.out; have := Z10.out; have := Z11.out; have := Z12.out; have := Z13.out; have := Z14.out; have := Z15.out; have := Z16.out; omega))
 clear Sg
 have Sg := n_
 clear n_
 clear HB
 have HB := HBn
 clear HBn
 have Z17 := Aside0.mk HK.out.1
 clear HK Sx0
 clear SM
 have hz_P0_0_0 : w14.cell? ⟨w.heap.size, 0, none⟩ = some (.int .i64 z0) := (blk_cell (KP0.out) 0).trans rfl
 have hz_P0_1_1 : w14.cell? ⟨w.heap.size, 1, none⟩ = some (.slice A0 l0.length c0) := (blk_cell (KP0.out) 1).trans rfl
 have hz_W_0_2 : w14.cell? ⟨w4.heap.size, 0, none⟩ = some (.int .i64 g0) := (blk_cell (KW.out) 0).trans rfl
 have hz_W_1_3 : w14.cell? ⟨w4.heap.size, 1, none⟩ = some (.slice AW g1.length cW) := (blk_cell (KW.out) 1).trans rfl
 have hz_X0_0_4 : w14.cell? ⟨w6.heap.size, 0, none⟩ = some (.int .i64 z0) := (blk_cell (KX0.out) 0).trans rfl
 have hz_X0_1_5 : w14.cell? ⟨w6.heap.size, 1, none⟩ = some (.slice Ax0 y0.length cx0) := (blk_cell (KX0.out) 1).trans rfl
 have hz_G_0_6 : w14.cell? ⟨w8.heap.size, 0, none⟩ = some (.int .i64 g0) := (blk_cell (KG.out) 0).trans rfl
 have hz_G_1_7 : w14.cell? ⟨w8.heap.size, 1, none⟩ = some (.slice Ag g1.length cg) := (blk_cell (KG.out) 1).trans rfl
 go_wp2_with fail
 refine (laws_eqSum.calls k g0 _ _ g1 g0 _ _ g1 true _ (Kd.S_reads' Sg.out).2.2 (Kd.S_reads' Sg.out).2.1 (Kd.S_reads' SW.out).2.2 (Kd.S_reads' SW.out).2.1 FE.out).mono ?_
 rintro e w15 ⟨rfl, hb⟩
 clear hz_P0_0_0 hz_P0_1_1 hz_W_0_2 hz_W_1_3 hz_X0_0_4 hz_X0_1_5 hz_G_0_6 hz_G_1_7
 have B_ := Aside0.mk hb
 clear hb
 have n_ := Aside0.mk (blk_below KP0.out B_.out)
 clear KP0
 have KP0 := n_
 clear n_
 have n_ := Aside0.mk (blk_below KW.out B_.out)
 clear KW
 have KW := n_
 clear n_
 have n_ := Aside0.mk (blk_below KX0.out B_.out)
 clear KX0
 have KX0 := n_
 clear n_
 have n_ := Aside0.mk (blk_below KG.out B_.out)
 clear KG
 have KG := n_
 clear n_
 have n_ := Aside0.mk (Kd.S_below SW.out B_.out)
 clear SW
 have SW := n_
 clear n_
 have n_ := Aside0.mk (Kd.S_below Sg.out B_.out)
 clear Sg
 have Sg := n_
 clear n_
 have n_ := Aside0.mk (below_step HB.out B_.out)
 clear HB
 have HB := n_
 clear n_
 have Z18 := Aside0.mk (B_.out).size
 clear B_
 have hz_P0_0_0 : w15.cell? ⟨w.heap.size, 0, none⟩ = some (.int .i64 z0) := (blk_cell (KP0.out) 0).trans rfl
 have hz_P0_1_1 : w15.cell? ⟨w.heap.size, 1, none⟩ = some (.slice A0 l0.length c0) := (blk_cell (KP0.out) 1).trans rfl
 have hz_W_0_2 : w15.cell? ⟨w4.heap.size, 0, none⟩ = some (.int .i64 g0) := (blk_cell (KW.out) 0).trans rfl
 have hz_W_1_3 : w15.cell? ⟨w4.heap.size, 1, none⟩ = some (.slice AW g1.length cW) := (blk_cell (KW.out) 1).trans rfl
 have hz_X0_0_4 : w15.cell? ⟨w6.heap.size, 0, none⟩ = some (.int .i64 z0) := (blk_cell (KX0.out) 0).trans rfl
 have hz_X0_1_5 : w15.cell? ⟨w6.heap.size, 1, none⟩ = some (.slice Ax0 y0.length cx0) := (blk_cell (KX0.out) 1).trans rfl
 have hz_G_0_6 : w15.cell? ⟨w8.heap.size, 0, none⟩ = some (.int .i64 g0) := (blk_cell (KG.out) 0).trans rfl
 have hz_G_1_7 : w15.cell? ⟨w8.heap.size, 1, none⟩ = some (.slice Ag g1.length cg) := (blk_cell (KG.out) 1).trans rfl
 go_wp2_with fail
 refine (laws_markSum.calls k (fun k_ => w7.heap.size ≤ k_ ∧ k_ < w8.heap.size) g0 _ g1 1 m p1 w _ HB.out Sg.out FM.out).mono ?_
 rintro e w16 ⟨rfl, ho, hb, hk⟩
 clear hz_P0_0_0 hz_P0_1_1 hz_W_0_2 hz_W_1_3 hz_X0_0_4 hz_X0_1_5 hz_G_0_6 hz_G_1_7
 have HBn := Aside0.mk hb
 have HK := Aside0.mk hk
 have SM := Aside0.mk ho
 clear ho hb hk
 have n_ := Aside0.mk (blk_kept KP0.out HK.out (fun hs_ => by obtain ⟨x1_, x2_⟩ := hs_; have := Z0.out; have := Z1.out; have := Z2.out; have := Z3.out; have := Z4.out; have := Z5.out; have := Z6.out; have := Z7.out; have := Z8.out; have := Z9.out; have := Z10.out; have := Z11.out; have := Z12.out; have := Z13.out; have := Z14.out; have := Z15.out; have := Z16.out; have := Z17.out; have := Z18.out; omega))
 clear KP0
 have KP0 := n_
 clear n_
 have n_ := Aside0.mk (blk_kept KW.out HK.out (fun hs_ => by obtain ⟨x1_, x2_⟩ := hs_; have := Z0.out; have := Z1.out; have := Z2.out; have := Z3.out; have := Z4.out; have := Z5.out; have := Z6.out; have := Z7.out; have := Z8.out; have := Z9.out; have := Z10.out; have := Z11.out; have := Z12.out; have := Z13.out; have := Z14.out; have := Z15.out; have := Z16.out; have := Z17.out; have := Z18.out; omega))
 clear KW
 have KW := n_
 clear n_
 have n_ := Aside0.mk (blk_kept KX0.out HK.out (fun hs_ => by obtain ⟨x1_, x2_⟩ := hs_; have := Z0.out; have := Z1.out; have := Z2.out; have := Z3.out; have := Z4.out; have := Z5.out; have := Z6.out; have := Z7.out; have := Z8.out; have := Z9.out; have := Z10.out; have := Z11.out; have := Z12.out; have := Z13.out; have := Z14.out; have := Z15.out; have := Z16.out; have := Z17.out; have := Z18.out; omega))
 clear KX0
 have KX0 := n_
 clear n_
 have n_ := Aside0.mk (blk_kept KG.out HK.out (fun hs_ => by obtain ⟨x1_, x2_⟩ := hs_; have := Z0.out; have := Z1.out; have := Z2.out; have := Z3.out; have := Z4.out; have := Z5.out; have := Z6.out; have := Z7.out; have := Z8.out; have := Z9.out; have := Z10.out; have := Z11.out; have := Z12.out; have := Z13.out; have := Z14.out; have := Z15.out; have := Z16.out; have := Z17.out; have := Z18.out; omega))
 clear KG
 have KG := n_
 clear n_
 have n_ := Aside0.mk (Kd.S_kept SW.out HK.out (fun k_ h1_ h2_ => by obtain ⟨x1_, x2_⟩ := h1_; obtain ⟨x3_, x4_⟩ := h2_; have := Z0.out; have := Z1.out; have := Z2.out; have := Z3.out; have := Z4.out; have := Z5.out; have := Z6.out; have := Z7.out; have := Z8.out; have := Z9.out; have := Z10.out; have := Z11.out; have := Z12.out; have := Z13.out; have := Z14.out; have := Z15.out; have := Z16.out; have := Z17.out; have := Z18.out; omega))
 clear SW
 have SW := n_
 clear n_
 clear HB
 have HB := HBn
 clear HBn
 have Z19 := Aside0.mk HK.out.1
 clear HK Sg
 have SM1 := SM
 clear SM
 have hz_P0_0_0 : w16.cell? ⟨w.heap.size, 0, none⟩ = some (.int .i64 z0) := (blk_cell (KP0.out) 0).trans rfl
 have hz_P0_1_1 : w16.cell? ⟨w.heap.size, 1, none⟩ = some (.slice A0 l0.length c0) := (blk_cell (KP0.out) 1).trans rfl
 have hz_W_0_2 : w16.cell? ⟨w4.heap.size, 0, none⟩ = some (.int .i64 g0) := (blk_cell (KW.out) 0).trans rfl
 have hz_W_1_3 : w16.cell? ⟨w4.heap.size, 1, none⟩ = some (.slice AW g1.length cW) := (blk_cell (KW.out) 1).trans rfl
 have hz_X0_0_4 : w16.cell? ⟨w6.heap.size, 0, none⟩ = some (.int .i64 z0) := (blk_cell (KX0.out) 0).trans rfl
 have hz_X0_1_5 : w16.cell? ⟨w6.heap.size, 1, none⟩ = some (.slice Ax0 y0.length cx0) := (blk_cell (KX0.out) 1).trans rfl
 have hz_G_0_6 : w16.cell? ⟨w8.heap.size, 0, none⟩ = some (.int .i64 g0) := (blk_cell (KG.out) 0).trans rfl
 have hz_G_1_7 : w16.cell? ⟨w8.heap.size, 1, none⟩ = some (.slice Ag g1.length cg) := (blk_cell (KG.out) 1).trans rfl
 go_wp2_with fail
 have e_ := (Kd.S_reads' SM1.out).1
 have hh_ := laws_heldSum.calls k g0 _ _ p1 1 m _ (Kd.S_reads' SM1.out).2.2 (by rw [← e_]; exact (Kd.S_reads' SM1.out).2.1) FH.out
 rw [← e_] at hh_
 clear e_
 refine hh_.mono ?_
 clear hh_
 rintro e w17 ⟨rfl, hb⟩
 clear hz_P0_0_0 hz_P0_1_1 hz_W_0_2 hz_W_1_3 hz_X0_0_4 hz_X0_1_5 hz_G_0_6 hz_G_1_7
 have B_ := Aside0.mk hb
 clear hb
 have n_ := Aside0.mk (blk_below KP0.out B_.out)
 clear KP0
 have KP0 := n_
 clear n_
 have n_ := Aside0.mk (blk_below KW.out B_.out)
 clear KW
 have KW := n_
 clear n_
 have n_ := Aside0.mk (blk_below KX0.out B_.out)
 clear KX0
 have KX0 := n_
 clear n_
 have n_ := Aside0.mk (blk_below KG.out B_.out)
 clear KG
 have KG := n_
 clear n_
 have n_ := Aside0.mk (Kd.S_below SW.out B_.out)
 clear SW
 have SW := n_
 clear n_
 have n_ := Aside0.mk (Kd.S_below SM1.out B_.out)
 clear SM1
 have SM1 := n_
 clear n_
 have n_ := Aside0.mk (below_step HB.out B_.out)
 clear HB
 have HB := n_
 clear n_
 have Z20 := Aside0.mk (B_.out).size
 clear B_
 have hz_P0_0_0 : w17.cell? ⟨w.heap.size, 0, none⟩ = some (.int .i64 z0) := (blk_cell (KP0.out) 0).trans rfl
 have hz_P0_1_1 : w17.cell? ⟨w.heap.size, 1, none⟩ = some (.slice A0 l0.length c0) := (blk_cell (KP0.out) 1).trans rfl
 have hz_W_0_2 : w17.cell? ⟨w4.heap.size, 0, none⟩ = some (.int .i64 g0) := (blk_cell (KW.out) 0).trans rfl
 have hz_W_1_3 : w17.cell? ⟨w4.heap.size, 1, none⟩ = some (.slice AW g1.length cW) := (blk_cell (KW.out) 1).trans rfl
 have hz_X0_0_4 : w17.cell? ⟨w6.heap.size, 0, none⟩ = some (.int .i64 z0) := (blk_cell (KX0.out) 0).trans rfl
 have hz_X0_1_5 : w17.cell? ⟨w6.heap.size, 1, none⟩ = some (.slice Ax0 y0.length cx0) := (blk_cell (KX0.out) 1).trans rfl
 have hz_G_0_6 : w17.cell? ⟨w8.heap.size, 0, none⟩ = some (.int .i64 g0) := (blk_cell (KG.out) 0).trans rfl
 have hz_G_1_7 : w17.cell? ⟨w8.heap.size, 1, none⟩ = some (.slice Ag g1.length cg) := (blk_cell (KG.out) 1).trans rfl
 go_wp2_with fail
 refine (laws_toSum.calls k z0 _ _ l0 z0 y0 _ (Kd.C_below HA0.out HB.out) HC0.out FT0.out).mono ?_
 rintro e w18 ⟨v_, rfl, ho, hb⟩
 clear hz_P0_0_0 hz_P0_1_1 hz_W_0_2 hz_W_1_3 hz_X0_0_4 hz_X0_1_5 hz_G_0_6 hz_G_1_7
 have Sh0_ := Aside0.mk (laws_FnExactReflectSum.range ho HB.out.size)
 have B_ := Aside0.mk hb
 clear ho hb
 have n_ := Aside0.mk (blk_below KP0.out B_.out)
 clear KP0
 have KP0 := n_
 clear n_
 have n_ := Aside0.mk (blk_below KW.out B_.out)
 clear KW
 have KW := n_
 clear n_
 have n_ := Aside0.mk (blk_below KX0.out B_.out)
 clear KX0
 have KX0 := n_
 clear n_
 have n_ := Aside0.mk (blk_below KG.out B_.out)
 clear KG
 have KG := n_
 clear n_
 have n_ := Aside0.mk (Kd.S_below SW.out B_.out)
 clear SW
 have SW := n_
 clear n_
 have n_ := Aside0.mk (Kd.S_below SM1.out B_.out)
 clear SM1
 have SM1 := n_
 clear n_
 have n_ := Aside0.mk (below_step HB.out B_.out)
 clear HB
 have HB := n_
 clear n_
 have Z21 := Aside0.mk (B_.out).size
 clear B_
 have Sh0 := Sh0_
 clear Sh0_
 obtain ⟨Ah0, ch0, e_⟩ := Kd.S_slice Sh0.out
 subst e_
 have hz_P0_0_0 : w18.cell? ⟨w.heap.size, 0, none⟩ = some (.int .i64 z0) := (blk_cell (KP0.out) 0).trans rfl
 have hz_P0_1_1 : w18.cell? ⟨w.heap.size, 1, none⟩ = some (.slice A0 l0.length c0) := (blk_cell (KP0.out) 1).trans rfl
 have hz_W_0_2 : w18.cell? ⟨w4.heap.size, 0, none⟩ = some (.int .i64 g0) := (blk_cell (KW.out) 0).trans rfl
 have hz_W_1_3 : w18.cell? ⟨w4.heap.size, 1, none⟩ = some (.slice AW g1.length cW) := (blk_cell (KW.out) 1).trans rfl
 have hz_X0_0_4 : w18.cell? ⟨w6.heap.size, 0, none⟩ = some (.int .i64 z0) := (blk_cell (KX0.out) 0).trans rfl
 have hz_X0_1_5 : w18.cell? ⟨w6.heap.size, 1, none⟩ = some (.slice Ax0 y0.length cx0) := (blk_cell (KX0.out) 1).trans rfl
 have hz_G_0_6 : w18.cell? ⟨w8.heap.size, 0, none⟩ = some (.int .i64 g0) := (blk_cell (KG.out) 0).trans rfl
 have hz_G_1_7 : w18.cell? ⟨w8.heap.size, 1, none⟩ = some (.slice Ag g1.length cg) := (blk_cell (KG.out) 1).trans rfl
 go_wp2_with fail
 refine (impl_ReflectSum.calls k z0 _ _ y0 g0 g1 c _ (Kd.S_reads' Sh0.out).2.2 (Kd.S_reads' Sh0.out).2.1 FI.out).mono ?_
 rintro e w19 ⟨v_, rfl, ho, hb⟩
 clear hz_P0_0_0 hz_P0_1_1 hz_W_0_2 hz_W_1_3 hz_X0_0_4 hz_X0_1_5 hz_G_0_6 hz_G_1_7
 have Sy_ := Aside0.mk (laws_FnExactReflectSum.range ho HB.out.size)
 have B_ := Aside0.mk hb
 clear ho hb
 have n_ := Aside0.mk (blk_below KP0.out B_.out)
 clear KP0
 have KP0 := n_
 clear n_
 have n_ := Aside0.mk (blk_below KW.out B_.out)
 clear KW
 have KW := n_
 clear n_
 have n_ := Aside0.mk (blk_below KX0.out B_.out)
 clear KX0
 have KX0 := n_
 clear n_
 have n_ := Aside0.mk (blk_below KG.out B_.out)
 clear KG
 have KG := n_
 clear n_
 have n_ := Aside0.mk (Kd.S_below SW.out B_.out)
 clear SW
 have SW := n_
 clear n_
 have n_ := Aside0.mk (Kd.S_below SM1.out B_.out)
 clear SM1
 have SM1 := n_
 clear n_
 have n_ := Aside0.mk (Kd.S_below Sh0.out B_.out)
 clear Sh0
 have Sh0 := n_
 clear n_
 have n_ := Aside0.mk (below_step HB.out B_.out)
 clear HB
 have HB := n_
 clear n_
 have Z22 := Aside0.mk (B_.out).size
 clear B_
 have Sy := Sy_
 clear Sy_
 obtain ⟨Ay, cy, e_⟩ := Kd.S_slice Sy.out
 subst e_
 clear Sh0
 have hz_P0_0_0 : w19.cell? ⟨w.heap.size, 0, none⟩ = some (.int .i64 z0) := (blk_cell (KP0.out) 0).trans rfl
 have hz_P0_1_1 : w19.cell? ⟨w.heap.size, 1, none⟩ = some (.slice A0 l0.length c0) := (blk_cell (KP0.out) 1).trans rfl
 have hz_W_0_2 : w19.cell? ⟨w4.heap.size, 0, none⟩ = some (.int .i64 g0) := (blk_cell (KW.out) 0).trans rfl
 have hz_W_1_3 : w19.cell? ⟨w4.heap.size, 1, none⟩ = some (.slice AW g1.length cW) := (blk_cell (KW.out) 1).trans rfl
 have hz_X0_0_4 : w19.cell? ⟨w6.heap.size, 0, none⟩ = some (.int .i64 z0) := (blk_cell (KX0.out) 0).trans rfl
 have hz_X0_1_5 : w19.cell? ⟨w6.heap.size, 1, none⟩ = some (.slice Ax0 y0.length cx0) := (blk_cell (KX0.out) 1).trans rfl
 have hz_G_0_6 : w19.cell? ⟨w8.heap.size, 0, none⟩ = some (.int .i64 g0) := (blk_cell (KG.out) 0).trans rfl
 have hz_G_1_7 : w19.cell? ⟨w8.heap.size, 1, none⟩ = some (.slice Ag g1.length cg) := (blk_cell (KG.out) 1).trans rfl
 have ha0_P0_0 : (w19.alloc (.cells #[.int .i64 g0, .slice Ay g1.length cy] 49)).cell? ⟨w.heap.size, 0, none⟩ = some (.int .i64 z0) := (blk_cell (blk_alloc (KP0.out) _) 0).trans rfl
 have ha0_P0_1 : (w19.alloc (.cells #[.int .i64 g0, .slice Ay g1.length cy] 49)).cell? ⟨w.heap.size, 1, none⟩ = some (.slice A0 l0.length c0) := (blk_cell (blk_alloc (KP0.out) _) 1).trans rfl
 have ha0_W_0 : (w19.alloc (.cells #[.int .i64 g0, .slice Ay g1.length cy] 49)).cell? ⟨w4.heap.size, 0, none⟩ = some (.int .i64 g0) := (blk_cell (blk_alloc (KW.out) _) 0).trans rfl
 have ha0_W_1 : (w19.alloc (.cells #[.int .i64 g0, .slice Ay g1.length cy] 49)).cell? ⟨w4.heap.size, 1, none⟩ = some (.slice AW g1.length cW) := (blk_cell (blk_alloc (KW.out) _) 1).trans rfl
 have ha0_X0_0 : (w19.alloc (.cells #[.int .i64 g0, .slice Ay g1.length cy] 49)).cell? ⟨w6.heap.size, 0, none⟩ = some (.int .i64 z0) := (blk_cell (blk_alloc (KX0.out) _) 0).trans rfl
 have ha0_X0_1 : (w19.alloc (.cells #[.int .i64 g0, .slice Ay g1.length cy] 49)).cell? ⟨w6.heap.size, 1, none⟩ = some (.slice Ax0 y0.length cx0) := (blk_cell (blk_alloc (KX0.out) _) 1).trans rfl
 have ha0_G_0 : (w19.alloc (.cells #[.int .i64 g0, .slice Ay g1.length cy] 49)).cell? ⟨w8.heap.size, 0, none⟩ = some (.int .i64 g0) := (blk_cell (blk_alloc (KG.out) _) 0).trans rfl
 have ha0_G_1 : (w19.alloc (.cells #[.int .i64 g0, .slice Ay g1.length cy] 49)).cell? ⟨w8.heap.size, 1, none⟩ = some (.slice Ag g1.length cg) := (blk_cell (blk_alloc (KG.out) _) 1).trans rfl
 have hn_Y_0 : (w19.alloc (.cells #[.int .i64 g0, .slice Ay g1.length cy] 49)).cell? ⟨w19.heap.size, 0, none⟩ = some (.int .i64 g0) := (blk_cell (blk_new w19 (.cells #[.int .i64 g0, .slice Ay g1.length cy] 49)) 0).trans rfl
 have hn_Y_1 : (w19.alloc (.cells #[.int .i64 g0, .slice Ay g1.length cy] 49)).cell? ⟨w19.heap.size, 1, none⟩ = some (.slice Ay g1.length cy) := (blk_cell (blk_new w19 (.cells #[.int .i64 g0, .slice Ay g1.length cy] 49)) 1).trans rfl
 go_wp2_with fail
 obtain ⟨w20, h_⟩ : ∃ x_ : World, w19.alloc (.cells #[.int .i64 g0, .slice Ay g1.length cy] 49) = x_ := ⟨_, rfl⟩
 rw [h_]
 have B_ : Aside0 (Below w19.heap.size w19 w20) := ⟨by rw [← h_]; exact below_alloc (Below.refl _ _) _⟩
 have KY : Aside0 (w20.heap[w19.heap.size]? = some (.cells #[.int .i64 g0, .slice Ay g1.length cy] 49 (0, 0))) := ⟨by rw [← h_]; exact blk_new _ _⟩
 clear h_
 have n_ := Aside0.mk (blk_below KP0.out B_.out)
 clear KP0
 have KP0 := n_
 clear n_
 have n_ := Aside0.mk (blk_below KW.out B_.out)
 clear KW
 have KW := n_
 clear n_
 have n_ := Aside0.mk (blk_below KX0.out B_.out)
 clear KX0
 have KX0 := n_
 clear n_
 have n_ := Aside0.mk (blk_below KG.out B_.out)
 clear KG
 have KG := n_
 clear n_
 have n_ := Aside0.mk (Kd.S_below SW.out B_.out)
 clear SW
 have SW := n_
 clear n_
 have n_ := Aside0.mk (Kd.S_below SM1.out B_.out)
 clear SM1
 have SM1 := n_
 clear n_
 have n_ := Aside0.mk (Kd.S_below Sy.out B_.out)
 clear Sy
 have Sy := n_
 clear n_
 have n_ := Aside0.mk (below_step HB.out B_.out)
 clear HB
 have HB := n_
 clear n_
 have Z23 := Aside0.mk (B_.out).size
 clear B_
 have Z24 := Aside0.mk (blk_lt KY.out)
 refine (laws_eqSum.calls k g0 _ _ g1 g0 _ _ g1 true _ (Kd.S_reads' Sy.out).2.2 (Kd.S_reads' Sy.out).2.1 (Kd.S_reads' SW.out).2.2 (Kd.S_reads' SW.out).2.1 FE.out).mono ?_
 rintro e w21 ⟨rfl, hb⟩
 clear hz_P0_0_0 hz_P0_1_1 hz_W_0_2 hz_W_1_3 hz_X0_0_4 hz_X0_1_5 hz_G_0_6 hz_G_1_7 ha0_P0_0 ha0_P0_1 ha0_W_0 ha0_W_1 ha0_X0_0 ha0_X0_1 ha0_G_0 ha0_G_1 hn_Y_0 hn_Y_1
 have B_ := Aside0.mk hb
 clear hb
 have n_ := Aside0.mk (blk_below KP0.out B_.out)
 clear KP0
 have KP0 := n_
 clear n_
 have n_ := Aside0.mk (blk_below KW.out B_.out)
 clear KW
 have KW := n_
 clear n_
 have n_ := Aside0.mk (blk_below KX0.out B_.out)
 clear KX0
 have KX0 := n_
 clear n_
 have n_ := Aside0.mk (blk_below KG.out B_.out)
 clear KG
 have KG := n_
 clear n_
 have n_ := Aside0.mk (blk_below KY.out B_.out)
 clear KY
 have KY := n_
 clear n_
 have n_ := Aside0.mk (Kd.S_below SW.out B_.out)
 clear SW
 have SW := n_
 clear n_
 have n_ := Aside0.mk (Kd.S_below SM1.out B_.out)
 clear SM1
 have SM1 := n_
 clear n_
 have n_ := Aside0.mk (Kd.S_below Sy.out B_.out)
 clear Sy
 have Sy := n_
 clear n_
 have n_ := Aside0.mk (below_step HB.out B_.out)
 clear HB
 have HB := n_
 clear n_
 have Z25 := Aside0.mk (B_.out).size
 clear B_
 have hz_P0_0_0 : w21.cell? ⟨w.heap.size, 0, none⟩ = some (.int .i64 z0) := (blk_cell (KP0.out) 0).trans rfl
 have hz_P0_1_1 : w21.cell? ⟨w.heap.size, 1, none⟩ = some (.slice A0 l0.length c0) := (blk_cell (KP0.out) 1).trans rfl
 have hz_W_0_2 : w21.cell? ⟨w4.heap.size, 0, none⟩ = some (.int .i64 g0) := (blk_cell (KW.out) 0).trans rfl
 have hz_W_1_3 : w21.cell? ⟨w4.heap.size, 1, none⟩ = some (.slice AW g1.length cW) := (blk_cell (KW.out) 1).trans rfl
 have hz_X0_0_4 : w21.cell? ⟨w6.heap.size, 0, none⟩ = some (.int .i64 z0) := (blk_cell (KX0.out) 0).trans rfl
 have hz_X0_1_5 : w21.cell? ⟨w6.heap.size, 1, none⟩ = some (.slice Ax0 y0.length cx0) := (blk_cell (KX0.out) 1).trans rfl
 have hz_G_0_6 : w21.cell? ⟨w8.heap.size, 0, none⟩ = some (.int .i64 g0) := (blk_cell (KG.out) 0).trans rfl
 have hz_G_1_7 : w21.cell? ⟨w8.heap.size, 1, none⟩ = some (.slice Ag g1.length cg) := (blk_cell (KG.out) 1).trans rfl
 have hz_Y_0_8 : w21.cell? ⟨w19.heap.size, 0, none⟩ = some (.int .i64 g0) := (blk_cell (KY.out) 0).trans rfl
 have hz_Y_1_9 : w21.cell? ⟨w19.heap.size, 1, none⟩ = some (.slice Ay g1.length cy) := (blk_cell (KY.out) 1).trans rfl
 go_wp2_with fail
 have e_ := (Kd.S_reads' SM1.out).1
 have hh_ := laws_heldSum.calls k g0 _ _ p1 1 m _ (Kd.S_reads' SM1.out).2.2 (by rw [← e_]; exact (Kd.S_reads' SM1.out).2.1) FH.out
 rw [← e_] at hh_
 clear e_
 refine hh_.mono ?_
 clear hh_
 rintro e w22 ⟨rfl, hb⟩
 clear hz_P0_0_0 hz_P0_1_1 hz_W_0_2 hz_W_1_3 hz_X0_0_4 hz_X0_1_5 hz_G_0_6 hz_G_1_7 hz_Y_0_8 hz_Y_1_9
 have B_ := Aside0.mk hb
 clear hb
 have n_ := Aside0.mk (blk_below KP0.out B_.out)
 clear KP0
 have KP0 := n_
 clear n_
 have n_ := Aside0.mk (blk_below KW.out B_.out)
 clear KW
 have KW := n_
 clear n_
 have n_ := Aside0.mk (blk_below KX0.out B_.out)
 clear KX0
 have KX0 := n_
 clear n_
 have n_ := Aside0.mk (blk_below KG.out B_.out)
 clear KG
 have KG := n_
 clear n_
 have n_ := Aside0.mk (blk_below KY.out B_.out)
 clear KY
 have KY := n_
 clear n_
 have n_ := Aside0.mk (Kd.S_below SW.out B_.out)
 clear SW
 have SW := n_
 clear n_
 have n_ := Aside0.mk (Kd.S_below SM1.out B_.out)
 clear SM1
 have SM1 := n_
 clear n_
 have n_ := Aside0.mk (Kd.S_below Sy.out B_.out)
 clear Sy
 have Sy := n_
 clear n_
 have n_ := Aside0.mk (below_step HB.out B_.out)
 clear HB
 have HB := n_
 clear n_
 have Z26 := Aside0.mk (B_.out).size
 clear B_
 go_wp2
 go_ret
 exact ⟨rfl, HB.out⟩
def laws_FnExactReflectSum.Pure : Prop := ∀ (z0 : Int) (l0 : List S110), (Lit.int .i64 z0).wf = true → l0.length ≤ 9223372036854775807 → (∀ y ∈ l0, y.f0.length ≤ maxLen ∧ (∀ n ∈ y.f0, (Lit.int .i64 n).wf = true) ∧ (Lit.int .i64 y.f1).wf = true) → (∃ k s, laws_szSum.f k z0 l0 1048576 = some s ∧ s < 0) ∨ ∃ k c m g0 g1 p1 s0 m10 y0 q0, laws_FnExactReflectSum.Told z0 l0 k c m g0 g1 p1 s0 m10 y0 q0
set_option maxHeartbeats 4000000 in
set_option maxRecDepth 100000 in
theorem laws_FnExactReflectSum.early (A0 : Option Addr) (c0 : Nat) (z0 : Int) (l0 : List S110) (w : World) (hr0 : Kd.C k110 w A0 l0.length l0) (hc0 : l0.length ≤ c0) (k : Nat) (s : Int) (hFZ : laws_szSum.f k z0 l0 1048576 = some s) (hs : s < 0) :
  Calls Try.prog 12 #[.agg #[.int .i64 z0, .slice A0 l0.length c0]] w fun e w' => e = .returned (.bool true) ∧ Below w.heap.size w w' := by
 have huA := Try.underlying44
 have HB0 := Aside0.mk (below_alloc (Below.refl w.heap.size w) (.cells #[.int .i64 z0, .slice A0 l0.length c0] 44))
 have hz0_0 : (w.alloc (.cells #[.int .i64 z0, .slice A0 l0.length c0] 44)).cell? ⟨w.heap.size, 0, none⟩ = some (.int .i64 z0) := (blk_cell (blk_new w (.cells #[.int .i64 z0, .slice A0 l0.length c0] 44)) 0).trans rfl
 have hz0_1 : (w.alloc (.cells #[.int .i64 z0, .slice A0 l0.length c0] 44)).cell? ⟨w.heap.size, 1, none⟩ = some (.slice A0 l0.length c0) := (blk_cell (blk_new w (.cells #[.int .i64 z0, .slice A0 l0.length c0] 44)) 1).trans rfl
 have FZ := Aside0.mk hFZ
 clear hFZ
 have HA0 := Aside0.mk (Kd.C_below hr0 HB0.out)
 have HC0 := Aside0.mk hc0
 clear hr0 hc0
 have ds : decide (s < 0) = true := decide_eq_true hs
 clear hs
 go_enter Try.func12, Try.ntmps12
 go_wp2_with fail
 refine (laws_szSum.calls k z0 _ _ l0 1048576 s _ HA0.out HC0.out FZ.out).mono ?_
 rintro e w2 ⟨rfl, hb⟩
 have HB2 := Aside0.mk (below_step HB0.out hb)
 clear hb
 go_wp2
 go_ret
 exact ⟨rfl, HB2.out⟩
theorem laws_FnExactReflectSum.walk (P : laws_FnExactReflectSum.Pure) (A0 : Option Addr) (c0 : Nat) (z0 : Int) (l0 : List S110) (w : World) (hr0 : Kd.C k110 w A0 l0.length l0) (hc0 : l0.length ≤ c0) (wz0 : (Lit.int .i64 z0).wf = true) (hg0 : ∀ y ∈ l0, y.f0.length ≤ maxLen ∧ (∀ n ∈ y.f0, (Lit.int .i64 n).wf = true) ∧ (Lit.int .i64 y.f1).wf = true) :
  Calls Try.prog 12 #[.agg #[.int .i64 z0, .slice A0 l0.length c0]] w fun e w' => e = .returned (.bool true) ∧ Below w.heap.size w w' := by
 rcases P z0 l0 wz0 hr0.2.1 hg0 with ⟨k, s, h1, h2⟩ | ⟨k, c, m, g0, g1, p1, s0, m10, y0, q0, h⟩
 ·exact laws_FnExactReflectSum.early _ _ z0 l0 w hr0 hc0 k s h1 h2
 ·exact laws_FnExactReflectSum.one _ _ z0 l0 w hr0 hc0 k c m g0 g1 p1 s0 m10 y0 q0 h

end Go.Proofs.Ytpfhbdpmafcnfaa.G
