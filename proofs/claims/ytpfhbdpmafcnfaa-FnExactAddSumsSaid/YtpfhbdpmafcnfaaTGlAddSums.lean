-- Written by the session's program mk.py (which runs the kit's print.py over functions and over contracts given by hand).
import Derived.Test.YtpfhbdpmafcnfaaTG0
import Derived.Test.YtpfhbdpmafcnfaaTG96
import Derived.Test.YtpfhbdpmafcnfaaTG97
import Derived.Test.YtpfhbdpmafcnfaaTG98
import Derived.Test.YtpfhbdpmafcnfaaTG99
import Derived.Test.YtpfhbdpmafcnfaaTGgA
import Derived.Test.YtpfhbdpmafcnfaaTGgC
import Derived.Test.YtpfhbdpmafcnfaaTGgD
import Derived.Test.YtpfhbdpmafcnfaaTGgQ
import Derived.Test.YtpfhbdpmafcnfaaTGgR
import Derived.Test.YtpfhbdpmafcnfaaTGgS
import Derived.Test.YtpfhbdpmafcnfaaTGgW
import Derived.Test.YtpfhbdpmafcnfaaTGgZ
namespace Go.Proofs.Ytpfhbdpmafcnfaa.G
open Go.RowKit Go.Maps Go.Proofs.YtpfhbdpmafcnfaaW.PrintWords Go.Proofs.YtpfhbdpmafcnfaaW.PrintLast Go.Proofs.YtpfhbdpmafcnfaaW.PrintMore
attribute [local go_sem] max2_int min2_int max_two min_two max_three min_three max_four min_four   -- for this text's walks alone
set_option linter.unusedVariables false
set_option linter.unusedSimpArgs false
mutual
def spec_AddSums.j0 : Nat → Int → Int → Bool → Int → List (S89) → Int → List (S89) → Option (Int × (List (S89)) × Int)
 | 0, _, _, _, _, _, _, _ => none
 | k + 1, x2, x8, x23, x102000, x102001, x103000, x103001 => if x23 = true then (spec_AddSums.j1 k x2 2 x102000 x102001 x103000 x103001) else (spec_AddSums.j1 k x2 x8 x102000 x102001 x103000 x103001)
def spec_AddSums.j1 : Nat → Int → Int → Int → List (S89) → Int → List (S89) → Option (Int × (List (S89)) × Int)
 | 0, _, _, _, _, _, _ => none
 | k + 1, x2, x8, x102000, x102001, x103000, x103001 => if x8 = 0 then ((spec_l03Plus.f k x102000 x102001 x103000 x103001 x2).bind fun bt106 => ((spec_l03Told.f bt106.1 bt106.2).bind fun bt110 => (some (bt110.1, bt110.2.1, bt110.2.2)))) else (some (0, ([] : List (S89)), x8))
end
def spec_AddSums.f (k : Nat) (a0_0 : Int) (l0_1 : List (S89)) (a1_0 : Int) (l1_1 : List (S89)) (a2 : Int) : Option (Int × (List (S89)) × Int) := (spec_l03Like.f k a0_0 l0_1 a1_0 l1_1).bind fun t104 => (if t104 = 0 then ((spec_l01In.f a2 0 (wrap64 (a0_0 - 1))).bind fun t105 => (spec_AddSums.j0 k a2 t104 (!t105) a0_0 l0_1 a1_0 l1_1)) else (spec_AddSums.j0 k a2 t104 false a0_0 l0_1 a1_0 l1_1))
set_option maxHeartbeats 8000000 in
set_option maxRecDepth 100000 in
theorem spec_AddSums.calls (k : Nat) (a0_0 : Int) (P0_1_ : Nat → Prop) (A0_1 : Option Addr) (c0_1 : Nat) (l0_1 : List (S89)) (a1_0 : Int) (A1_1 : Option Addr) (c1_1 : Nat) (l1_1 : List (S89)) (a2 : Int) (r1 : Int) (r2 : List (S89)) (r3 : Int) (w : World) (hs0_1 : Kd.V k89 89 w w.heap.size (fun k_ => P0_1_ k_) (.slice A0_1 l0_1.length c0_1) l0_1) (hr1_1 : Kd.C k89 w A1_1 l1_1.length l1_1) (hc1_1 : l1_1.length ≤ c1_1) (h : spec_AddSums.f k a0_0 l0_1 a1_0 l1_1 a2 = some (r1, r2, r3)) :
  Calls Try.prog 48 #[.agg #[.int .i64 a0_0, .slice A0_1 l0_1.length c0_1], .agg #[.int .i64 a1_0, .slice A1_1 l1_1.length c1_1], .int .i64 a2] w fun e w' => ∃ v1_ : Value, e = .returned (.tuple #[.agg #[.int .i64 r1, v1_], .int .i64 r3]) ∧ Kd.V k89 89 w' w.heap.size (fun k_ => (P0_1_ k_ ∨ w.heap.size ≤ k_)) v1_ r2 ∧ Below w.heap.size w w' := by
 have hu49 := Try.underlying49
 have HO0_1 := Aside0.mk (show Kd.V k89 89 w w.heap.size (fun k_ => (P0_1_ k_ ∨ w.heap.size ≤ k_)) (.slice A0_1 l0_1.length c0_1) l0_1 from Kd.V_mono hs0_1 (fun k_ hk => .inl hk))
 have HR1_1 := Aside0.mk hr1_1
 have HC1_1 := Aside0.mk hc1_1
 clear hr1_1 hc1_1
 have HB := Aside0.mk (Below.refl w.heap.size w)
 have H : ((spec_l03Like.f k a0_0 l0_1 a1_0 l1_1).bind fun t104 => (if t104 = 0 then ((spec_l01In.f a2 0 (wrap64 (a0_0 - 1))).bind fun t105 => (spec_AddSums.j0 k a2 t104 (!t105) a0_0 l0_1 a1_0 l1_1)) else (spec_AddSums.j0 k a2 t104 false a0_0 l0_1 a1_0 l1_1))) = some (r1, r2, r3) := h
 clear h
 replace H := Option.bind_eq_some_iff.mp H
 obtain ⟨t104, A40, H⟩ := H
 replace H : (if t104 = 0 then ((spec_l01In.f a2 0 (wrap64 (a0_0 - 1))).bind fun t105 => (spec_AddSums.j0 k a2 t104 (!t105) a0_0 l0_1 a1_0 l1_1)) else (spec_AddSums.j0 k a2 t104 false a0_0 l0_1 a1_0 l1_1)) = some (r1, r2, r3) := H
 have A4 := Aside0.mk A40
 clear A40
 have HC5 := Aside0.mk H
 clear H
 go_enter Try.func48, Try.ntmps48
 go_upto_region 2 with (first | ((with_reducible refine gate_dst (N := 3) rfl ?_); refine box_event ?hg (N := 3) ?hd (cs := #[.int .i64 a0_0, .slice A0_1 l0_1.length c0_1]) (t := 49) ?hr ?_; (case hd => rfl); (case hg => rfl); (case hr => first | (go_simp; done) | (go_simp; rfl)); intro gb101 hg w6 hbox hb; replace HO0_1 := Aside0.mk (Kd.V_below (Kd.V_elderB (by (with_reducible repeat (first | apply Kd.V_alloc | apply Kd.V_drewN | apply Kd.V_drew)); exact HO0_1.out) gb101 (Nat.le_of_eq hg.symm)) hb); have BK101 := Aside0.mk (hbox); have GW101 := Aside0.mk ((by rw [hg]; exact (below_size (by repeat (first | (with_reducible first | exact HB.out | apply below_alloc | apply pw_below_drewN | apply below_drew1) | exact HB.out))) : w.heap.size ≤ gb101)); have GE101 := Aside0.mk ((by rw [hg]; exact (below_size (by repeat (first | (with_reducible first | exact HB.out | apply below_alloc | apply pw_below_drewN | apply below_drew1) | exact HB.out))) : w.heap.size ≤ gb101)); replace HB := Aside0.mk (below_step (by repeat (first | (with_reducible first | exact HB.out | apply below_alloc | apply pw_below_drewN | apply below_drew1) | exact HB.out)) hb); clear hb hbox hg) | ((with_reducible refine gate_dst (N := 4) rfl ?_); refine box_event ?hg (N := 4) ?hd (cs := #[.int .i64 a1_0, .slice A1_1 l1_1.length c1_1]) (t := 49) ?hr ?_; (case hd => rfl); (case hg => rfl); (case hr => first | (go_simp; done) | (go_simp; rfl)); intro gb102 hg w7 hbox hb; replace HO0_1 := Aside0.mk (Kd.V_below (Kd.V_elderB (by (with_reducible repeat (first | apply Kd.V_alloc | apply Kd.V_drewN | apply Kd.V_drew)); exact HO0_1.out) gb102 (Nat.le_of_eq hg.symm)) hb); have BK102 := Aside0.mk (hbox); have GW102 := Aside0.mk ((by rw [hg]; exact (below_size (by repeat (first | (with_reducible first | exact HB.out | apply below_alloc | apply pw_below_drewN | apply below_drew1 | refine below_set ?_ GE101.out) | exact HB.out))) : w.heap.size ≤ gb102)); have GE102 := Aside0.mk ((by rw [hg]; exact (below_size (by repeat (first | (with_reducible first | exact HB.out | apply below_alloc | apply pw_below_drewN | apply below_drew1 | refine below_set ?_ GE101.out) | exact HB.out))) : w.heap.size ≤ gb102)); replace HB := Aside0.mk (below_step (by repeat (first | (with_reducible first | exact HB.out | apply below_alloc | apply pw_below_drewN | apply below_drew1 | refine below_set ?_ GE101.out) | exact HB.out)) hb); have NB101_102 := Aside0.mk ((by rw [hg]; exact Nat.ne_of_lt (blk_lt (g := gb101) (o := .cells #[.int .i64 a0_0, .slice A0_1 l0_1.length c0_1] 49 (0, 0)) (by (with_reducible repeat (first | refine blk_drewN ?_ _ | refine blk_drew ?_ | refine blk_alloc ?_ _)); exact BK101.out)) : gb101 ≠ gb102)); have NB102_101 := Aside0.mk ((by rw [hg]; exact Nat.ne_of_gt (blk_lt (g := gb101) (o := .cells #[.int .i64 a0_0, .slice A0_1 l0_1.length c0_1] 49 (0, 0)) (by (with_reducible repeat (first | refine blk_drewN ?_ _ | refine blk_drew ?_ | refine blk_alloc ?_ _)); exact BK101.out)) : gb102 ≠ gb101)); replace BK101 := Aside0.mk (blk_below (g := gb101) (o := .cells #[.int .i64 a0_0, .slice A0_1 l0_1.length c0_1] 49 (0, 0)) (by (with_reducible repeat (first | refine blk_drewN ?_ _ | refine blk_drew ?_ | refine blk_alloc ?_ _)); exact BK101.out) hb); clear hb hbox hg) | ((with_reducible refine gate_dst (N := 6) rfl ?_); refine box_event ?hg (N := 6) ?hd (cs := #[.int .i64 0, .slice none 0 0]) (t := 49) ?hr ?_; (case hd => rfl); (case hg => rfl); (case hr => first | (go_simp; done) | (go_simp; rfl)); intro gb103 hg w8 hbox hb; replace HO0_1 := Aside0.mk (Kd.V_below (Kd.V_elderB (by (with_reducible repeat (first | apply Kd.V_alloc | apply Kd.V_drewN | apply Kd.V_drew)); exact HO0_1.out) gb103 (Nat.le_of_eq hg.symm)) hb); have BK103 := Aside0.mk (hbox); have GW103 := Aside0.mk ((by rw [hg]; exact (below_size (by repeat (first | (with_reducible first | exact HB.out | apply below_alloc | apply pw_below_drewN | apply below_drew1 | refine below_set ?_ GE101.out | refine below_set ?_ GE102.out) | exact HB.out))) : w.heap.size ≤ gb103)); have GE103 := Aside0.mk ((by rw [hg]; exact (below_size (by repeat (first | (with_reducible first | exact HB.out | apply below_alloc | apply pw_below_drewN | apply below_drew1 | refine below_set ?_ GE101.out | refine below_set ?_ GE102.out) | exact HB.out))) : w.heap.size ≤ gb103)); replace HB := Aside0.mk (below_step (by repeat (first | (with_reducible first | exact HB.out | apply below_alloc | apply pw_below_drewN | apply below_drew1 | refine below_set ?_ GE101.out | refine below_set ?_ GE102.out) | exact HB.out)) hb); have NB101_103 := Aside0.mk ((by rw [hg]; exact Nat.ne_of_lt (blk_lt (g := gb101) (o := .cells #[.int .i64 a0_0, .slice A0_1 l0_1.length c0_1] 49 (0, 0)) (by (with_reducible repeat (first | refine blk_drewN ?_ _ | refine blk_drew ?_ | refine blk_alloc ?_ _)); exact BK101.out)) : gb101 ≠ gb103)); have NB103_101 := Aside0.mk ((by rw [hg]; exact Nat.ne_of_gt (blk_lt (g := gb101) (o := .cells #[.int .i64 a0_0, .slice A0_1 l0_1.length c0_1] 49 (0, 0)) (by (with_reducible repeat (first | refine blk_drewN ?_ _ | refine blk_drew ?_ | refine blk_alloc ?_ _)); exact BK101.out)) : gb103 ≠ gb101)); replace BK101 := Aside0.mk (blk_below (g := gb101) (o := .cells #[.int .i64 a0_0, .slice A0_1 l0_1.length c0_1] 49 (0, 0)) (by (with_reducible repeat (first | refine blk_drewN ?_ _ | refine blk_drew ?_ | refine blk_alloc ?_ _)); exact BK101.out) hb); have NB102_103 := Aside0.mk ((by rw [hg]; exact Nat.ne_of_lt (blk_lt (g := gb102) (o := .cells #[.int .i64 a1_0, .slice A1_1 l1_1.length c1_1] 49 (0, 0)) (by (with_reducible repeat (first | refine blk_drewN ?_ _ | refine blk_drew ?_ | refine blk_alloc ?_ _)); exact BK102.out)) : gb102 ≠ gb103)); have NB103_102 := Aside0.mk ((by rw [hg]; exact Nat.ne_of_gt (blk_lt (g := gb102) (o := .cells #[.int .i64 a1_0, .slice A1_1 l1_1.length c1_1] 49 (0, 0)) (by (with_reducible repeat (first | refine blk_drewN ?_ _ | refine blk_drew ?_ | refine blk_alloc ?_ _)); exact BK102.out)) : gb103 ≠ gb102)); replace BK102 := Aside0.mk (blk_below (g := gb102) (o := .cells #[.int .i64 a1_0, .slice A1_1 l1_1.length c1_1] 49 (0, 0)) (by (with_reducible repeat (first | refine blk_drewN ?_ _ | refine blk_drew ?_ | refine blk_alloc ?_ _)); exact BK102.out) hb); clear hb hbox hg; have hnb9 := NB101_102.out; have hnc9 := NB102_101.out; have hnb10 := NB101_103.out; have hnc10 := NB103_101.out; have hcz11_0 : w8.cell? ⟨gb101, 0, none⟩ = some (.int .i64 a0_0) := (blk_cell BK101.out 0).trans rfl; have hcz11_1 : w8.cell? ⟨gb101, 1, none⟩ = some (.slice A0_1 l0_1.length c0_1) := (blk_cell BK101.out 1).trans rfl; have hfz11_0 := blk_frozen BK101.out 0; have hfz11_1 := blk_frozen BK101.out 1; have hnb12 := NB102_103.out; have hnc12 := NB103_102.out; have hcz13_0 : w8.cell? ⟨gb102, 0, none⟩ = some (.int .i64 a1_0) := (blk_cell BK102.out 0).trans rfl; have hcz13_1 : w8.cell? ⟨gb102, 1, none⟩ = some (.slice A1_1 l1_1.length c1_1) := (blk_cell BK102.out 1).trans rfl; have hfz13_0 := blk_frozen BK102.out 0; have hfz13_1 := blk_frozen BK102.out 1) | ((with_reducible refine gate_callee (f := 96) rfl ?_); refine goesL_ (some 13) rfl rfl Try.func96 (by kernel_rfl) rfl #[.agg #[.int .i64 a0_0, .slice A0_1 l0_1.length c0_1], .agg #[.int .i64 a1_0, .slice A1_1 l1_1.length c1_1]] rfl (by (try simp only [List.map_toArray, List.map_cons, List.map_nil]); first | done | rfl | (simp only [List.length_drop, List.length_take]; rfl)) ?_; (with_reducible refine (spec_l03Like.calls k a0_0 _ _ l0_1 a1_0 _ _ l1_1 t104 _ ?side1 ?side2 ?side3 ?side4 A4.out).mono ?_); (case side1 => repeat (first | exact (Kd.V_reads' HO0_1.out).2.2 | (with_reducible refine Kd.C_alloc ?_ _) | (with_reducible refine Kd.C_drewN ?_ _) | (with_reducible refine Kd.C_drew ?_))); (case side2 => exact (Kd.V_reads' HO0_1.out).2.1); (case side3 => repeat (first | exact (Kd.C_below HR1_1.out HB.out) | (with_reducible refine Kd.C_alloc ?_ _) | (with_reducible refine Kd.C_drewN ?_ _) | (with_reducible refine Kd.C_drew ?_))); (case side4 => exact HC1_1.out); rintro e w14 ⟨rfl, hb⟩; refine ⟨_, rfl, ?_⟩; replace HO0_1 := Aside0.mk (Kd.V_below (by (with_reducible repeat (first | apply Kd.V_alloc | apply Kd.V_drewN | apply Kd.V_drew)); exact HO0_1.out) hb); replace BK101 := Aside0.mk (blk_below (g := gb101) (o := .cells #[.int .i64 a0_0, .slice A0_1 l0_1.length c0_1] 49 (0, 0)) (by (with_reducible repeat (first | refine blk_drewN ?_ _ | refine blk_drew ?_ | refine blk_alloc ?_ _)); exact BK101.out) hb); replace BK102 := Aside0.mk (blk_below (g := gb102) (o := .cells #[.int .i64 a1_0, .slice A1_1 l1_1.length c1_1] 49 (0, 0)) (by (with_reducible repeat (first | refine blk_drewN ?_ _ | refine blk_drew ?_ | refine blk_alloc ?_ _)); exact BK102.out) hb); replace BK103 := Aside0.mk (blk_below (g := gb103) (o := .cells #[.int .i64 0, .slice none 0 0] 49 (0, 0)) (by (with_reducible repeat (first | refine blk_drewN ?_ _ | refine blk_drew ?_ | refine blk_alloc ?_ _)); exact BK103.out) hb); replace HB := Aside0.mk (below_step (by repeat (first | (with_reducible first | exact HB.out | apply below_alloc | apply pw_below_drewN | apply below_drew1 | refine below_set ?_ GE101.out | refine below_set ?_ GE102.out | refine below_set ?_ GE103.out) | exact HB.out)) hb); (try clear hb); (try clear hb2); (try clear hk); (try clear hi)))
 (try simp only [Act.put, sA, sZ, sS])
 go_cut [23] (fun v23 wc => ∃ (kq : Nat) (x23_4 : Bool), v23 = .bool x23_4 ∧ Aside0 (spec_AddSums.j0 kq a2 t104 x23_4 a0_0 l0_1 a1_0 l1_1 = some (r1, r2, r3)) ∧ Aside0 (kq ≤ k) ∧ Aside0 (Kd.V k89 89 wc w.heap.size (fun k_ => (P0_1_ k_ ∨ w.heap.size ≤ k_) ∧ k_ ≠ gb101 ∧ k_ ≠ gb102 ∧ k_ ≠ gb103) (.slice A0_1 l0_1.length c0_1) l0_1) ∧ Aside0 (wc.heap[gb101]? = some (.cells #[.int .i64 a0_0, (.slice A0_1 l0_1.length c0_1)] 49 (0, 0))) ∧ Aside0 (wc.heap[gb102]? = some (.cells #[.int .i64 a1_0, (.slice A1_1 l1_1.length c1_1)] 49 (0, 0))) ∧ Aside0 (wc.heap[gb103]? = some (.cells #[.int .i64 0, (.slice none 0 0)] 49 (0, 0))) ∧ Aside0 (Below w.heap.size w wc))
 case first =>
  have H := HC5.out
  clear HC5
  by_cases c15 : t104 = 0
  case neg =>
   rw [if_neg c15] at H
   have c15b0 : (t104 == 0) = false := beq_eq_false_iff_ne.mpr c15
   have c15b1 : (t104 != 0) = true := bne_iff_ne.mpr c15
   (first | rw [c15b0] | (simp only [i64_w, i32_w]; rw [c15b0]) | skip)
   have H' := Aside0.mk H
   clear H
   go_wp2
   go_meet
   case rel => exact ⟨_, (false), (by first | rfl | (simp; done) | (simp [*]; done)), H', ⟨by first | omega | exact Nat.le_refl _⟩, ⟨by (with_reducible repeat (first | apply Kd.V_alloc | apply Kd.V_drewN | apply Kd.V_drew)); exact Kd.V_mono HO0_1.out (fun _ hk => ⟨hk.1.1.1, ⟨hk.1.1.2, ⟨hk.1.2, hk.2⟩⟩⟩)⟩, ⟨by (with_reducible repeat (first | refine blk_drewN ?_ _ | refine blk_drew ?_ | refine blk_alloc ?_ _)); exact BK101.out⟩, ⟨by (with_reducible repeat (first | refine blk_drewN ?_ _ | refine blk_drew ?_ | refine blk_alloc ?_ _)); exact BK102.out⟩, ⟨by (with_reducible repeat (first | refine blk_drewN ?_ _ | refine blk_drew ?_ | refine blk_alloc ?_ _)); exact BK103.out⟩, ⟨by repeat (first | (with_reducible first | exact HB.out | apply below_alloc | apply pw_below_drewN | apply below_drew1 | refine below_set ?_ GE101.out | refine below_set ?_ GE102.out | refine below_set ?_ GE103.out) | exact HB.out)⟩⟩
  rw [if_pos c15] at H
  have c15b0 : (t104 == 0) = true := beq_iff_eq.mpr c15
  have c15b1 : (t104 != 0) = false := bne_eq_false_iff_eq.mpr c15
  clear c15
  (first | rw [c15b0] | (simp only [i64_w, i32_w]; rw [c15b0]) | skip)
  replace H := Option.bind_eq_some_iff.mp H
  obtain ⟨t105, A160, H⟩ := H
  replace H : (spec_AddSums.j0 k a2 t104 (!t105) a0_0 l0_1 a1_0 l1_1) = some (r1, r2, r3) := H
  have A16 := Aside0.mk A160
  clear A160
  have H' := Aside0.mk H
  clear H
  have hnb17 := NB101_102.out
  have hnc17 := NB102_101.out
  have hnb18 := NB101_103.out
  have hnc18 := NB103_101.out
  have hcz19_0 : w14.cell? ⟨gb101, 0, none⟩ = some (.int .i64 a0_0) := (blk_cell BK101.out 0).trans rfl
  have hcz19_1 : w14.cell? ⟨gb101, 1, none⟩ = some (.slice A0_1 l0_1.length c0_1) := (blk_cell BK101.out 1).trans rfl
  have hfz19_0 := blk_frozen BK101.out 0
  have hfz19_1 := blk_frozen BK101.out 1
  go_wp2_with (first | (go_at_call 59; (with_reducible refine (spec_l01In.calls a2 0 (wrap64 (a0_0 - 1)) t105 _ A16.out).mono ?_); rintro e w' ⟨rfl, ⟨nd, rfl⟩⟩))
  go_meet
  case rel => exact ⟨_, (!t105), (by first | rfl | (simp; done) | (simp [*]; done)), H', ⟨by first | omega | exact Nat.le_refl _⟩, ⟨by (with_reducible repeat (first | apply Kd.V_alloc | apply Kd.V_drewN | apply Kd.V_drew)); exact Kd.V_mono HO0_1.out (fun _ hk => ⟨hk.1.1.1, ⟨hk.1.1.2, ⟨hk.1.2, hk.2⟩⟩⟩)⟩, ⟨by (with_reducible repeat (first | refine blk_drewN ?_ _ | refine blk_drew ?_ | refine blk_alloc ?_ _)); exact BK101.out⟩, ⟨by (with_reducible repeat (first | refine blk_drewN ?_ _ | refine blk_drew ?_ | refine blk_alloc ?_ _)); exact BK102.out⟩, ⟨by (with_reducible repeat (first | refine blk_drewN ?_ _ | refine blk_drew ?_ | refine blk_alloc ?_ _)); exact BK103.out⟩, ⟨by repeat (first | (with_reducible first | exact HB.out | apply below_alloc | apply pw_below_drewN | apply below_drew1 | refine below_set ?_ GE101.out | refine below_set ?_ GE102.out | refine below_set ?_ GE103.out) | exact HB.out)⟩⟩
 case rest =>
  clear HC5
  try clear c1
  try clear p2
  try clear c4
  try clear p6
  try clear c9
  try clear c10
  try clear c12
  try clear c15
  try clear c15b0
  try clear c15b1
  try clear c17
  try clear c18
  try clear hcz11_0
  try clear hcz11_1
  try clear hcz13_0
  try clear hcz13_1
  try clear hcz19_0
  try clear hcz19_1
  try clear hfz11_0
  try clear hfz11_1
  try clear hfz13_0
  try clear hfz13_1
  try clear hfz19_0
  try clear hfz19_1
  obtain ⟨kq, x23_4, rfl, HA, HJ4, HO_102001, BK101, BK102, BK103, HB⟩ := hcut
  cases kq with
  | zero => exact absurd HA.out (by simp [spec_AddSums.j0])
  | succ kj4 =>
   have H := HA.out
   clear HA
   simp only [spec_AddSums.j0] at H
   have HC20 := Aside0.mk H
   clear H
   go_upto_if 23 with (fail)
   go_cut [8] (fun v8 wc => ∃ (kq : Nat) (x8_19 : Int), v8 = .int .i64 x8_19 ∧ Aside0 (spec_AddSums.j1 kq a2 x8_19 a0_0 l0_1 a1_0 l1_1 = some (r1, r2, r3)) ∧ Aside0 (kq ≤ kj4) ∧ Aside0 (Kd.V k89 89 wc w.heap.size (fun k_ => (P0_1_ k_ ∨ w.heap.size ≤ k_) ∧ k_ ≠ gb101 ∧ k_ ≠ gb102 ∧ k_ ≠ gb103) (.slice A0_1 l0_1.length c0_1) l0_1) ∧ Aside0 (wc.heap[gb101]? = some (.cells #[.int .i64 a0_0, (.slice A0_1 l0_1.length c0_1)] 49 (0, 0))) ∧ Aside0 (wc.heap[gb102]? = some (.cells #[.int .i64 a1_0, (.slice A1_1 l1_1.length c1_1)] 49 (0, 0))) ∧ Aside0 (wc.heap[gb103]? = some (.cells #[.int .i64 0, (.slice none 0 0)] 49 (0, 0))) ∧ Aside0 (Below w.heap.size w wc))
   case first =>
    have H := HC20.out
    clear HC20
    by_cases c21 : x23_4 = true
    ·subst c21
     have H1 : (spec_AddSums.j1 kj4 a2 2 a0_0 l0_1 a1_0 l1_1) = some (r1, r2, r3) := by rw [if_pos rfl] at H; exact H
     clear H
     have H := H1
     clear H1
     have H' := Aside0.mk H
     clear H
     go_wp2
     go_meet
     case rel => exact ⟨_, (2), (by first | rfl | (simp; done) | (simp [*]; done)), H', ⟨by have := HJ4.out; first | omega | exact Nat.le_refl _⟩, ⟨by (with_reducible repeat (first | apply Kd.V_alloc | apply Kd.V_drewN | apply Kd.V_drew)); exact HO_102001.out⟩, ⟨by (with_reducible repeat (first | refine blk_drewN ?_ _ | refine blk_drew ?_ | refine blk_alloc ?_ _)); exact BK101.out⟩, ⟨by (with_reducible repeat (first | refine blk_drewN ?_ _ | refine blk_drew ?_ | refine blk_alloc ?_ _)); exact BK102.out⟩, ⟨by (with_reducible repeat (first | refine blk_drewN ?_ _ | refine blk_drew ?_ | refine blk_alloc ?_ _)); exact BK103.out⟩, ⟨by repeat (first | (with_reducible first | exact HB.out | apply below_alloc | apply pw_below_drewN | apply below_drew1 | refine below_set ?_ GE101.out | refine below_set ?_ GE102.out | refine below_set ?_ GE103.out) | exact HB.out)⟩⟩
    replace c21 := Bool.eq_false_iff.mpr c21
    subst c21
    have H1 : (spec_AddSums.j1 kj4 a2 t104 a0_0 l0_1 a1_0 l1_1) = some (r1, r2, r3) := by rw [if_neg (show ¬ (false = true) by decide)] at H; exact H
    clear H
    have H := H1
    clear H1
    have H' := Aside0.mk H
    clear H
    go_wp2
    go_meet
    case rel => exact ⟨_, (t104), (by first | rfl | (simp; done) | (simp [*]; done)), H', ⟨by have := HJ4.out; first | omega | exact Nat.le_refl _⟩, ⟨by (with_reducible repeat (first | apply Kd.V_alloc | apply Kd.V_drewN | apply Kd.V_drew)); exact HO_102001.out⟩, ⟨by (with_reducible repeat (first | refine blk_drewN ?_ _ | refine blk_drew ?_ | refine blk_alloc ?_ _)); exact BK101.out⟩, ⟨by (with_reducible repeat (first | refine blk_drewN ?_ _ | refine blk_drew ?_ | refine blk_alloc ?_ _)); exact BK102.out⟩, ⟨by (with_reducible repeat (first | refine blk_drewN ?_ _ | refine blk_drew ?_ | refine blk_alloc ?_ _)); exact BK103.out⟩, ⟨by repeat (first | (with_reducible first | exact HB.out | apply below_alloc | apply pw_below_drewN | apply below_drew1 | refine below_set ?_ GE101.out | refine below_set ?_ GE102.out | refine below_set ?_ GE103.out) | exact HB.out)⟩⟩
   case rest =>
    clear HC20
    try clear c1
    try clear c2
    try clear p2
    try clear c4
    try clear p6
    try clear c9
    try clear c10
    try clear c12
    try clear c15
    try clear c15b0
    try clear c15b1
    try clear c17
    try clear c18
    try clear c21
    try clear hcz11_0
    try clear hcz11_1
    try clear hcz13_0
    try clear hcz13_1
    try clear hcz19_0
    try clear hcz19_1
    try clear hfz11_0
    try clear hfz11_1
    try clear hfz13_0
    try clear hfz13_1
    try clear hfz19_0
    try clear hfz19_1
    try clear p2
    try clear p6
    obtain ⟨kq, x8_19, rfl, HA, HJ19, HO_102001, BK101, BK102, BK103, HB⟩ := hcut
    cases kq with
    | zero => exact absurd HA.out (by simp [spec_AddSums.j1])
    | succ kj19 =>
     have H := HA.out
     clear HA
     simp only [spec_AddSums.j1] at H
     by_cases c22 : x8_19 = 0
     case neg =>
      rw [if_neg c22] at H
      have c22b0 : (x8_19 == 0) = false := beq_eq_false_iff_ne.mpr c22
      have c22b1 : (x8_19 != 0) = true := bne_iff_ne.mpr c22
      simp only [Option.some.injEq, Prod.mk.injEq] at H
      obtain ⟨rfl, rfl, rfl⟩ := H
      have hnb40 := NB103_101.out
      have hnc40 := NB101_103.out
      have hnb41 := NB103_102.out
      have hnc41 := NB102_103.out
      have hcz42_0 : wc.cell? ⟨gb103, 0, none⟩ = some (.int .i64 0) := (blk_cell BK103.out 0).trans rfl
      have hcz42_1 : wc.cell? ⟨gb103, 1, none⟩ = some (.slice none 0 0) := (blk_cell BK103.out 1).trans rfl
      have hfz42_0 := blk_frozen BK103.out 0
      have hfz42_1 := blk_frozen BK103.out 1
      go_wp2
      refine bodyPost_ret (results_ct rfl _ _ gb103 49 #[.int .i64 0, .slice none 0 0] (0, 0) _ rfl (by (with_reducible repeat (first | refine blk_drewN ?_ _ | refine blk_drew ?_ | refine blk_alloc ?_ _)); refine blk_put (cs := #[.int .i64 0, .slice none 0 0]) ?_ 1 _ rfl; (with_reducible repeat (first | refine blk_drewN ?_ _ | refine blk_drew ?_ | refine blk_alloc ?_ _)); refine blk_put (cs := #[.int .i64 0, .slice none 0 0]) ?_ 0 _ rfl; (with_reducible repeat (first | refine blk_drewN ?_ _ | refine blk_drew ?_ | refine blk_alloc ?_ _)); exact BK103.out) Try.underlying49 rfl (by kernel_rfl)) rfl ?_
      exact ⟨_, by first | rfl | (simp [errW_none, errW_some] <;> rfl) | (simp [*, errW_none, errW_some] <;> rfl), Kd.V_nil _ _ _ _ _, by repeat (first | (with_reducible first | exact HB.out | apply below_alloc | apply pw_below_drewN | apply below_drew1 | refine below_set ?_ GE101.out | refine below_set ?_ GE102.out | refine below_set ?_ GE103.out) | exact HB.out)⟩
     rw [if_pos c22] at H
     have c22b0 : (x8_19 == 0) = true := beq_iff_eq.mpr c22
     have c22b1 : (x8_19 != 0) = false := bne_eq_false_iff_eq.mpr c22
     clear c22
     replace H := Option.bind_eq_some_iff.mp H
     obtain ⟨⟨t106, t107⟩, A230, H⟩ := H
     replace H : ((spec_l03Told.f t106 t107).bind fun bt110 => (some (bt110.1, bt110.2.1, bt110.2.2))) = some (r1, r2, r3) := H
     have A23 := Aside0.mk A230
     clear A230
     replace H := Option.bind_eq_some_iff.mp H
     obtain ⟨⟨t110, t111, t114⟩, A240, H⟩ := H
     replace H : (some (t110, t111, t114)) = some (r1, r2, r3) := H
     have A24 := Aside0.mk A240
     clear A240
     simp only [Option.some.injEq, Prod.mk.injEq] at H
     obtain ⟨rfl, rfl, rfl⟩ := H
     have hnb25 := NB101_102.out
     have hnc25 := NB102_101.out
     have hnb26 := NB101_103.out
     have hnc26 := NB103_101.out
     have hcz27_0 : wc.cell? ⟨gb101, 0, none⟩ = some (.int .i64 a0_0) := (blk_cell BK101.out 0).trans rfl
     have hcz27_1 : wc.cell? ⟨gb101, 1, none⟩ = some (.slice A0_1 l0_1.length c0_1) := (blk_cell BK101.out 1).trans rfl
     have hfz27_0 := blk_frozen BK101.out 0
     have hfz27_1 := blk_frozen BK101.out 1
     have hnb28 := NB102_103.out
     have hnc28 := NB103_102.out
     have hcz29_0 : wc.cell? ⟨gb102, 0, none⟩ = some (.int .i64 a1_0) := (blk_cell BK102.out 0).trans rfl
     have hcz29_1 : wc.cell? ⟨gb102, 1, none⟩ = some (.slice A1_1 l1_1.length c1_1) := (blk_cell BK102.out 1).trans rfl
     have hfz29_0 := blk_frozen BK102.out 0
     have hfz29_1 := blk_frozen BK102.out 1
     go_wp2_with (first | ((with_reducible refine gate_callee (f := 98) rfl ?_); refine goesL_ (some 32) rfl rfl Try.func98 (by kernel_rfl) rfl #[.agg #[.int .i64 a0_0, .slice A0_1 l0_1.length c0_1], .agg #[.int .i64 a1_0, .slice A1_1 l1_1.length c1_1], .int .i64 a2] rfl (by (try simp only [List.map_toArray, List.map_cons, List.map_nil]); first | done | rfl | (simp only [List.length_drop, List.length_take]; rfl)) ?_; (with_reducible refine (spec_l03Plus.calls kj19 a0_0 (fun k_ => ((P0_1_ k_ ∨ w.heap.size ≤ k_) ∧ (k_ ≠ gb101 ∧ (k_ ≠ gb102 ∧ k_ ≠ gb103)))) _ _ l0_1 a1_0 _ _ l1_1 a2 t106 t107 _ ?side1 ?side2 ?side3 A23.out).mono ?_); (case side1 => exact HO_102001.out); (case side2 => repeat (first | exact (Kd.C_below HR1_1.out HB.out) | (with_reducible refine Kd.C_alloc ?_ _) | (with_reducible refine Kd.C_drewN ?_ _) | (with_reducible refine Kd.C_drew ?_))); (case side3 => exact HC1_1.out); rintro e w30 ⟨v108, rfl, ho0, hb⟩; refine ⟨_, rfl, ?_⟩; replace HO_102001 := Aside0.mk (Kd.V_below (by (with_reducible repeat (first | apply Kd.V_alloc | apply Kd.V_drewN | apply Kd.V_drew)); exact HO_102001.out) hb); have HO109 := Aside0.mk (Kd.V_lower (Kd.V_mono (ok' := fun k_ => (P0_1_ k_ ∨ w.heap.size ≤ k_) ∧ k_ ≠ gb101 ∧ k_ ≠ gb102 ∧ k_ ≠ gb103) ho0 (fun k_ hk_ => ⟨Or.elim hk_ (fun hs_ => hs_.1) (fun hn_ => (.inr (Nat.le_trans (below_size (by repeat (first | (with_reducible first | exact HB.out | apply below_alloc | apply pw_below_drewN | apply below_drew1 | refine below_set ?_ GE101.out | refine below_set ?_ GE102.out | refine below_set ?_ GE103.out) | exact HB.out))) hn_))), Or.elim hk_ (fun hs_ => hs_.2.1) (fun hn_ => (Kd.freshB (g := gb101) (o := .cells #[.int .i64 a0_0, .slice A0_1 l0_1.length c0_1] 49 (0, 0)) (by (with_reducible repeat (first | refine blk_drewN ?_ _ | refine blk_drew ?_ | refine blk_alloc ?_ _)); exact BK101.out) k_ hn_)), Or.elim hk_ (fun hs_ => hs_.2.2.1) (fun hn_ => (Kd.freshB (g := gb102) (o := .cells #[.int .i64 a1_0, .slice A1_1 l1_1.length c1_1] 49 (0, 0)) (by (with_reducible repeat (first | refine blk_drewN ?_ _ | refine blk_drew ?_ | refine blk_alloc ?_ _)); exact BK102.out) k_ hn_)), Or.elim hk_ (fun hs_ => hs_.2.2.2) (fun hn_ => (Kd.freshB (g := gb103) (o := .cells #[.int .i64 0, .slice none 0 0] 49 (0, 0)) (by (with_reducible repeat (first | refine blk_drewN ?_ _ | refine blk_drew ?_ | refine blk_alloc ?_ _)); exact BK103.out) k_ hn_))⟩)) (below_size (by repeat (first | (with_reducible first | exact HB.out | apply below_alloc | apply pw_below_drewN | apply below_drew1 | refine below_set ?_ GE101.out | refine below_set ?_ GE102.out | refine below_set ?_ GE103.out) | exact HB.out)))); replace BK101 := Aside0.mk (blk_below (g := gb101) (o := .cells #[.int .i64 a0_0, .slice A0_1 l0_1.length c0_1] 49 (0, 0)) (by (with_reducible repeat (first | refine blk_drewN ?_ _ | refine blk_drew ?_ | refine blk_alloc ?_ _)); exact BK101.out) hb); replace BK102 := Aside0.mk (blk_below (g := gb102) (o := .cells #[.int .i64 a1_0, .slice A1_1 l1_1.length c1_1] 49 (0, 0)) (by (with_reducible repeat (first | refine blk_drewN ?_ _ | refine blk_drew ?_ | refine blk_alloc ?_ _)); exact BK102.out) hb); replace BK103 := Aside0.mk (blk_below (g := gb103) (o := .cells #[.int .i64 0, .slice none 0 0] 49 (0, 0)) (by (with_reducible repeat (first | refine blk_drewN ?_ _ | refine blk_drew ?_ | refine blk_alloc ?_ _)); exact BK103.out) hb); replace HB := Aside0.mk (below_step (by repeat (first | (with_reducible first | exact HB.out | apply below_alloc | apply pw_below_drewN | apply below_drew1 | refine below_set ?_ GE101.out | refine below_set ?_ GE102.out | refine below_set ?_ GE103.out) | exact HB.out)) hb); (try clear hb); (try clear hb2); (try clear hk); (try clear hi); (try clear ho0); obtain ⟨Ao31, co31, eo31⟩ := Kd.V_slice HO109.out; subst eo31) | ((with_reducible refine gate_callee (f := 97) rfl ?_); refine goesL_ (some 33) rfl rfl Try.func97 (by kernel_rfl) rfl #[.agg #[.int .i64 t106, .slice Ao31 t107.length co31]] rfl (by (try simp only [List.map_toArray, List.map_cons, List.map_nil]); first | done | rfl | (simp only [List.length_drop, List.length_take]; rfl)) ?_; (with_reducible refine (spec_l03Told.calls t106 (fun k_ => ((P0_1_ k_ ∨ w.heap.size ≤ k_) ∧ (k_ ≠ gb101 ∧ (k_ ≠ gb102 ∧ k_ ≠ gb103)))) _ _ t107 t110 t111 t114 _ ?side1 A24.out).mono ?_); (case side1 => exact HO109.out); rintro e w32 ⟨v112, rfl, ho0, hb⟩; refine ⟨_, rfl, ?_⟩; replace HO_102001 := Aside0.mk (Kd.V_below (by (with_reducible repeat (first | apply Kd.V_alloc | apply Kd.V_drewN | apply Kd.V_drew)); exact HO_102001.out) hb); replace HO109 := Aside0.mk (Kd.V_below (by (with_reducible repeat (first | apply Kd.V_alloc | apply Kd.V_drewN | apply Kd.V_drew)); exact HO109.out) hb); have HO113 := Aside0.mk (Kd.V_lower (Kd.V_mono (ok' := fun k_ => (P0_1_ k_ ∨ w.heap.size ≤ k_) ∧ k_ ≠ gb101 ∧ k_ ≠ gb102 ∧ k_ ≠ gb103) ho0 (fun k_ hk_ => ⟨Or.elim hk_ (fun hs_ => hs_.1) (fun hn_ => (.inr (Nat.le_trans (below_size (by repeat (first | (with_reducible first | exact HB.out | apply below_alloc | apply pw_below_drewN | apply below_drew1 | refine below_set ?_ GE101.out | refine below_set ?_ GE102.out | refine below_set ?_ GE103.out) | exact HB.out))) hn_))), Or.elim hk_ (fun hs_ => hs_.2.1) (fun hn_ => (Kd.freshB (g := gb101) (o := .cells #[.int .i64 a0_0, .slice A0_1 l0_1.length c0_1] 49 (0, 0)) (by (with_reducible repeat (first | refine blk_drewN ?_ _ | refine blk_drew ?_ | refine blk_alloc ?_ _)); exact BK101.out) k_ hn_)), Or.elim hk_ (fun hs_ => hs_.2.2.1) (fun hn_ => (Kd.freshB (g := gb102) (o := .cells #[.int .i64 a1_0, .slice A1_1 l1_1.length c1_1] 49 (0, 0)) (by (with_reducible repeat (first | refine blk_drewN ?_ _ | refine blk_drew ?_ | refine blk_alloc ?_ _)); exact BK102.out) k_ hn_)), Or.elim hk_ (fun hs_ => hs_.2.2.2) (fun hn_ => (Kd.freshB (g := gb103) (o := .cells #[.int .i64 0, .slice none 0 0] 49 (0, 0)) (by (with_reducible repeat (first | refine blk_drewN ?_ _ | refine blk_drew ?_ | refine blk_alloc ?_ _)); exact BK103.out) k_ hn_))⟩)) (below_size (by repeat (first | (with_reducible first | exact HB.out | apply below_alloc | apply pw_below_drewN | apply below_drew1 | refine below_set ?_ GE101.out | refine below_set ?_ GE102.out | refine below_set ?_ GE103.out) | exact HB.out)))); replace BK101 := Aside0.mk (blk_below (g := gb101) (o := .cells #[.int .i64 a0_0, .slice A0_1 l0_1.length c0_1] 49 (0, 0)) (by (with_reducible repeat (first | refine blk_drewN ?_ _ | refine blk_drew ?_ | refine blk_alloc ?_ _)); exact BK101.out) hb); replace BK102 := Aside0.mk (blk_below (g := gb102) (o := .cells #[.int .i64 a1_0, .slice A1_1 l1_1.length c1_1] 49 (0, 0)) (by (with_reducible repeat (first | refine blk_drewN ?_ _ | refine blk_drew ?_ | refine blk_alloc ?_ _)); exact BK102.out) hb); replace BK103 := Aside0.mk (blk_below (g := gb103) (o := .cells #[.int .i64 0, .slice none 0 0] 49 (0, 0)) (by (with_reducible repeat (first | refine blk_drewN ?_ _ | refine blk_drew ?_ | refine blk_alloc ?_ _)); exact BK103.out) hb); replace HB := Aside0.mk (below_step (by repeat (first | (with_reducible first | exact HB.out | apply below_alloc | apply pw_below_drewN | apply below_drew1 | refine below_set ?_ GE101.out | refine below_set ?_ GE102.out | refine below_set ?_ GE103.out) | exact HB.out)) hb); (try clear hb); (try clear hb2); (try clear hk); (try clear hi); (try clear ho0)) | ((with_reducible refine gate_dst (N := 9) rfl ?_); refine box_event ?hg (N := 9) ?hd (cs := #[.int .i64 0, .slice none 0 0]) (t := 49) ?hr ?_; (case hd => rfl); (case hg => rfl); (case hr => first | (go_simp; done) | (go_simp; rfl)); intro gb115 hg w33 hbox hb; replace HO_102001 := Aside0.mk (Kd.V_below (Kd.V_elderB (by (with_reducible repeat (first | apply Kd.V_alloc | apply Kd.V_drewN | apply Kd.V_drew)); exact HO_102001.out) gb115 (Nat.le_of_eq hg.symm)) hb); replace HO109 := Aside0.mk (Kd.V_below (Kd.V_elderB (by (with_reducible repeat (first | apply Kd.V_alloc | apply Kd.V_drewN | apply Kd.V_drew)); exact HO109.out) gb115 (Nat.le_of_eq hg.symm)) hb); replace HO113 := Aside0.mk (Kd.V_below (Kd.V_elderB (by (with_reducible repeat (first | apply Kd.V_alloc | apply Kd.V_drewN | apply Kd.V_drew)); exact HO113.out) gb115 (Nat.le_of_eq hg.symm)) hb); have BK115 := Aside0.mk (hbox); have GW115 := Aside0.mk ((by rw [hg]; exact (below_size (by repeat (first | (with_reducible first | exact HB.out | apply below_alloc | apply pw_below_drewN | apply below_drew1 | refine below_set ?_ GE101.out | refine below_set ?_ GE102.out | refine below_set ?_ GE103.out) | exact HB.out))) : w.heap.size ≤ gb115)); have GE115 := Aside0.mk ((by rw [hg]; exact (below_size (by repeat (first | (with_reducible first | exact HB.out | apply below_alloc | apply pw_below_drewN | apply below_drew1 | refine below_set ?_ GE101.out | refine below_set ?_ GE102.out | refine below_set ?_ GE103.out) | exact HB.out))) : w.heap.size ≤ gb115)); replace HB := Aside0.mk (below_step (by repeat (first | (with_reducible first | exact HB.out | apply below_alloc | apply pw_below_drewN | apply below_drew1 | refine below_set ?_ GE101.out | refine below_set ?_ GE102.out | refine below_set ?_ GE103.out) | exact HB.out)) hb); have NB101_115 := Aside0.mk ((by rw [hg]; exact Nat.ne_of_lt (blk_lt (g := gb101) (o := .cells #[.int .i64 a0_0, .slice A0_1 l0_1.length c0_1] 49 (0, 0)) (by (with_reducible repeat (first | refine blk_drewN ?_ _ | refine blk_drew ?_ | refine blk_alloc ?_ _)); exact BK101.out)) : gb101 ≠ gb115)); have NB115_101 := Aside0.mk ((by rw [hg]; exact Nat.ne_of_gt (blk_lt (g := gb101) (o := .cells #[.int .i64 a0_0, .slice A0_1 l0_1.length c0_1] 49 (0, 0)) (by (with_reducible repeat (first | refine blk_drewN ?_ _ | refine blk_drew ?_ | refine blk_alloc ?_ _)); exact BK101.out)) : gb115 ≠ gb101)); replace BK101 := Aside0.mk (blk_below (g := gb101) (o := .cells #[.int .i64 a0_0, .slice A0_1 l0_1.length c0_1] 49 (0, 0)) (by (with_reducible repeat (first | refine blk_drewN ?_ _ | refine blk_drew ?_ | refine blk_alloc ?_ _)); exact BK101.out) hb); have NB102_115 := Aside0.mk ((by rw [hg]; exact Nat.ne_of_lt (blk_lt (g := gb102) (o := .cells #[.int .i64 a1_0, .slice A1_1 l1_1.length c1_1] 49 (0, 0)) (by (with_reducible repeat (first | refine blk_drewN ?_ _ | refine blk_drew ?_ | refine blk_alloc ?_ _)); exact BK102.out)) : gb102 ≠ gb115)); have NB115_102 := Aside0.mk ((by rw [hg]; exact Nat.ne_of_gt (blk_lt (g := gb102) (o := .cells #[.int .i64 a1_0, .slice A1_1 l1_1.length c1_1] 49 (0, 0)) (by (with_reducible repeat (first | refine blk_drewN ?_ _ | refine blk_drew ?_ | refine blk_alloc ?_ _)); exact BK102.out)) : gb115 ≠ gb102)); replace BK102 := Aside0.mk (blk_below (g := gb102) (o := .cells #[.int .i64 a1_0, .slice A1_1 l1_1.length c1_1] 49 (0, 0)) (by (with_reducible repeat (first | refine blk_drewN ?_ _ | refine blk_drew ?_ | refine blk_alloc ?_ _)); exact BK102.out) hb); have NB103_115 := Aside0.mk ((by rw [hg]; exact Nat.ne_of_lt (blk_lt (g := gb103) (o := .cells #[.int .i64 0, .slice none 0 0] 49 (0, 0)) (by (with_reducible repeat (first | refine blk_drewN ?_ _ | refine blk_drew ?_ | refine blk_alloc ?_ _)); exact BK103.out)) : gb103 ≠ gb115)); have NB115_103 := Aside0.mk ((by rw [hg]; exact Nat.ne_of_gt (blk_lt (g := gb103) (o := .cells #[.int .i64 0, .slice none 0 0] 49 (0, 0)) (by (with_reducible repeat (first | refine blk_drewN ?_ _ | refine blk_drew ?_ | refine blk_alloc ?_ _)); exact BK103.out)) : gb115 ≠ gb103)); replace BK103 := Aside0.mk (blk_below (g := gb103) (o := .cells #[.int .i64 0, .slice none 0 0] 49 (0, 0)) (by (with_reducible repeat (first | refine blk_drewN ?_ _ | refine blk_drew ?_ | refine blk_alloc ?_ _)); exact BK103.out) hb); clear hb hbox hg; have hnb34 := NB115_101.out; have hnc34 := NB101_115.out; have hnb35 := NB115_102.out; have hnc35 := NB102_115.out; have hnb36 := NB115_103.out; have hnc36 := NB103_115.out; have hcz37_0 : w33.cell? ⟨gb115, 0, none⟩ = some (.int .i64 0) := (blk_cell BK115.out 0).trans rfl; have hcz37_1 : w33.cell? ⟨gb115, 1, none⟩ = some (.slice none 0 0) := (blk_cell BK115.out 1).trans rfl; have hfz37_0 := blk_frozen BK115.out 0; have hfz37_1 := blk_frozen BK115.out 1; obtain ⟨Ao38, co38, eo38⟩ := Kd.V_slice HO113.out; subst eo38; have hcz39_0 : w33.cell? ⟨gb103, 0, none⟩ = some (.int .i64 0) := (blk_cell BK103.out 0).trans rfl; have hcz39_1 : w33.cell? ⟨gb103, 1, none⟩ = some (.slice none 0 0) := (blk_cell BK103.out 1).trans rfl; have hfz39_0 := blk_frozen BK103.out 0; have hfz39_1 := blk_frozen BK103.out 1))
     refine bodyPost_ret (results_ct rfl _ _ gb103 49 #[.int .i64 t110, .slice Ao38 t111.length co38] (0, 0) _ rfl (by (with_reducible repeat (first | refine blk_drewN ?_ _ | refine blk_drew ?_ | refine blk_alloc ?_ _)); refine blk_put (cs := #[.int .i64 t110, .slice none 0 0]) ?_ 1 _ rfl; (with_reducible repeat (first | refine blk_drewN ?_ _ | refine blk_drew ?_ | refine blk_alloc ?_ _)); refine blk_put (cs := #[.int .i64 0, .slice none 0 0]) ?_ 0 _ rfl; (with_reducible repeat (first | refine blk_drewN ?_ _ | refine blk_drew ?_ | refine blk_alloc ?_ _)); refine blk_far ?_ NB103_115.out _; (with_reducible repeat (first | refine blk_drewN ?_ _ | refine blk_drew ?_ | refine blk_alloc ?_ _)); refine blk_far ?_ NB103_115.out _; (with_reducible repeat (first | refine blk_drewN ?_ _ | refine blk_drew ?_ | refine blk_alloc ?_ _)); exact BK103.out) Try.underlying49 rfl (by kernel_rfl)) rfl ?_
     exact ⟨_, by first | rfl | (simp [errW_none, errW_some] <;> rfl) | (simp [*, errW_none, errW_some] <;> rfl), by (with_reducible repeat (first | apply Kd.V_alloc | apply Kd.V_drewN | apply Kd.V_drew)); exact Kd.V_mono (Kd.V_far (p := ⟨gb103, 1, none⟩) (Kd.V_far (p := ⟨gb103, 0, none⟩) (Kd.V_far (p := ⟨gb115, 1, none⟩) (Kd.V_far (p := ⟨gb115, 0, none⟩) (Kd.V_mono (Kd.V_mono HO113.out (fun k_ hk => (⟨hk, hk.2⟩ : _ ∧ k_ ≠ gb115))) (fun k_ hk => (⟨hk, hk.1.1.2.2.2⟩ : _ ∧ k_ ≠ gb103))) (fun _ hk => hk.1.2) (.int .i64 t110)) (fun _ hk => hk.1.2) (.slice Ao38 t111.length co38)) (fun _ hk => hk.2) (.int .i64 t110)) (fun _ hk => hk.2) (.slice Ao38 t111.length co38)) (fun _ hk => hk.1.1.1.1), by repeat (first | (with_reducible first | exact HB.out | apply below_alloc | apply pw_below_drewN | apply below_drew1 | refine below_set ?_ GE101.out | refine below_set ?_ GE102.out | refine below_set ?_ GE103.out | refine below_set ?_ GE115.out) | exact HB.out)⟩
def impl_AddSums.f (k : Nat) (p : Int) (xs : List S89) (q : Int) (ys : List S89) (kk : Int) : Option (Int × List S89 × Int) :=
 (impl_IsSum.f k p xs).bind fun s0 => (impl_IsSum.f k q ys).bind fun s1 => if (s0 && s1) = true then (if q = p then ((impl_valueOk.f k p kk).bind fun v => if v = true then ((impl_plus.f p xs q ys kk).bind fun r => some (limR r.1 r.2)) else some (0, [], 2)) else some (0, [], 2)) else some (0, [], 1)
set_option maxHeartbeats 4000000 in
set_option maxRecDepth 100000 in
theorem impl_AddSums.calls (k : Nat) (p : Int) (A : Option Addr) (c : Nat) (xs : List S89) (q : Int) (A' : Option Addr) (c' : Nat) (ys : List S89) (kk : Int) (r1 : Int) (r2 : List S89) (r3 : Int) (w : World) (hr : Kd.C k89 w A xs.length xs) (hc : xs.length ≤ c) (hr' : Kd.C k89 w A' ys.length ys) (hc' : ys.length ≤ c') (h : impl_AddSums.f k p xs q ys kk = some (r1, r2, r3)) :
  Calls Try.prog 49 #[.agg #[.int .i64 p, .slice A xs.length c], .agg #[.int .i64 q, .slice A' ys.length c'], .int .i64 kk] w fun e w' => ∃ v, e = .returned (.tuple #[.agg #[.int .i64 r1, v], .int .i64 r3]) ∧ Kd.S k89 89 w' w.heap.size (fun _ => True) v r2 ∧ Below w.heap.size w w' := by
 unfold impl_AddSums.f at h
 obtain ⟨s0, hs0, h⟩ := Option.bind_eq_some_iff.mp h
 obtain ⟨s1, hs1, h⟩ := Option.bind_eq_some_iff.mp h
 have hu49 := Try.underlying49
 have HR0 := Aside0.mk hr
 have HC0 := Aside0.mk hc
 have HR1 := Aside0.mk hr'
 have HC1 := Aside0.mk hc'
 have HS0 := Aside0.mk hs0
 have HS1 := Aside0.mk hs1
 have H := Aside0.mk h
 have k3 := blk_alloc (blk_alloc (blk_new w (.cells #[.int .i64 p, .slice A xs.length c] 49)) (.cells #[.int .i64 q, .slice A' ys.length c'] 49)) (.cells #[.int .i64 0, .slice none 0 0] 49)
 have k4 := blk_alloc (blk_new (w.alloc (.cells #[.int .i64 p, .slice A xs.length c] 49)) (.cells #[.int .i64 q, .slice A' ys.length c'] 49)) (.cells #[.int .i64 0, .slice none 0 0] 49)
 have k6 := blk_new ((w.alloc (.cells #[.int .i64 p, .slice A xs.length c] 49)).alloc (.cells #[.int .i64 q, .slice A' ys.length c'] 49)) (.cells #[.int .i64 0, .slice none 0 0] 49)
 have s4 : (w.alloc (.cells #[.int .i64 p, .slice A xs.length c] 49)).heap.size = w.heap.size + 1 := by simp
 have s6 : ((w.alloc (.cells #[.int .i64 p, .slice A xs.length c] 49)).alloc (.cells #[.int .i64 q, .slice A' ys.length c'] 49)).heap.size = w.heap.size + 1 + 1 := by simp
 have s7 : (((w.alloc (.cells #[.int .i64 p, .slice A xs.length c] 49)).alloc (.cells #[.int .i64 q, .slice A' ys.length c'] 49)).alloc (.cells #[.int .i64 0, .slice none 0 0] 49)).heap.size = w.heap.size + 1 + 1 + 1 := by simp
 rw [s4] at k4
 rw [s6] at k6
 have kl := blk_new (((w.alloc (.cells #[.int .i64 p, .slice A xs.length c] 49)).alloc (.cells #[.int .i64 q, .slice A' ys.length c'] 49)).alloc (.cells #[.int .i64 0, .slice none 0 0] 49)) (.cells #[.int .i64 p, .slice A xs.length c, .int .i64 q, .slice A' ys.length c'] 49)
 rw [s7] at kl
 have ox := (.cells #[.int .i64 p, .slice A xs.length c, .int .i64 q, .slice A' ys.length c'] 49 : Obj)
 have K30 := Aside0.mk (blk_alloc k3 (.cells #[.int .i64 p, .slice A xs.length c, .int .i64 q, .slice A' ys.length c'] 49))
 have K40 := Aside0.mk (blk_alloc k4 (.cells #[.int .i64 p, .slice A xs.length c, .int .i64 q, .slice A' ys.length c'] 49))
 have K60 := Aside0.mk (blk_alloc k6 (.cells #[.int .i64 p, .slice A xs.length c, .int .i64 q, .slice A' ys.length c'] 49))
 have KL0 := Aside0.mk kl
 have HB0 := Aside0.mk (below_alloc (below_alloc (below_alloc (below_alloc (Below.refl w.heap.size w) (.cells #[.int .i64 p, .slice A xs.length c] 49)) (.cells #[.int .i64 q, .slice A' ys.length c'] 49)) (.cells #[.int .i64 0, .slice none 0 0] 49)) (.cells #[.int .i64 p, .slice A xs.length c, .int .i64 q, .slice A' ys.length c'] 49))
 clear hr hc hr' hc' hs0 hs1 h k3 k4 k6 kl s4 s6 s7 ox
 go_enter Try.func49, Try.ntmps49
 go_wp2_with fail
 generalize (((w.alloc (.cells #[.int .i64 p, .slice A xs.length c] 49)).alloc (.cells #[.int .i64 q, .slice A' ys.length c'] 49)).alloc (.cells #[.int .i64 0, .slice none 0 0] 49)).alloc (.cells #[.int .i64 p, .slice A xs.length c, .int .i64 q, .slice A' ys.length c'] 49) = w1 at K30 K40 K60 KL0 HB0 ⊢
 obtain ⟨BL, e7⟩ : ∃ x, x = w.heap.size + 1 + 1 + 1 := ⟨_, rfl⟩
 obtain ⟨B6, e6⟩ : ∃ x, x = w.heap.size + 1 + 1 := ⟨_, rfl⟩
 obtain ⟨B4, e4⟩ : ∃ x, x = w.heap.size + 1 := ⟨_, rfl⟩
 obtain ⟨B3, e3⟩ : ∃ x, x = w.heap.size := ⟨_, rfl⟩
 have g6 : w.heap.size ≤ B6 := by omega
 rw [← e7] at KL0
 rw [← e6] at K60
 rw [← e4] at K40
 rw [show w1.heap[w.heap.size]? = w1.heap[B3]? by rw [e3]] at K30
 try rw [show w.heap.size + 3 = BL by omega]
 try rw [← e7]
 try rw [show w.heap.size + 2 = B6 by omega]
 try rw [← e6]
 rw [← e4]
 rw [show (Value.pointer (some ⟨w.heap.size, 0, none⟩)) = Value.pointer (some ⟨B3, 0, none⟩) by rw [e3]]
 clear e3 e4 e6 e7
 refine (impl_wrong.calls k BL p q A A' c c' xs ys s0 s1 w1 KL0.out (Kd.C_below HR0.out HB0.out) HC0.out (Kd.C_below HR1.out HB0.out) HC1.out HS0.out HS1.out).mono ?_
 rintro e w2 ⟨rfl, hb2⟩
 have K3 := Aside0.mk (blk_below K30.out hb2)
 have K4 := Aside0.mk (blk_below K40.out hb2)
 have KR2 := Aside0.mk (blk_below K60.out hb2)
 have HB2 := Aside0.mk (below_step HB0.out hb2)
 clear hb2 K30 K40 K60 KL0 HB0
 have hx0 : w2.cell? ⟨B3, 0, none⟩ = some (.int .i64 p) := (blk_cell K3.out 0).trans rfl
 have hq0 : w2.cell? ⟨B6, 0, none⟩ = some (.int .i64 0) := (blk_cell KR2.out 0).trans rfl
 have hq1 : w2.cell? ⟨B6, 1, none⟩ = some (.slice none 0 0) := (blk_cell KR2.out 1).trans rfl
 have hf0 := blk_frozen KR2.out 0
 have hf1 := blk_frozen KR2.out 1
 by_cases hss : (s0 && s1) = true
 case neg =>
  have h := H.out
  rw [if_neg hss] at h
  have ew : wrongR s0 s1 p q = 1 := by unfold wrongR; rw [if_neg hss]
  rw [ew]
  have e0 : ((0 : Int), ([] : List S89), (1 : Int)) = (r1, r2, r3) := Option.some.inj h
  cases e0
  clear h hss ew H
  go_wp2
  refine bodyPost_ret (results_ct rfl _ _ B6 49 #[.int .i64 0, .slice none 0 0] (0, 0) _ rfl (by refine blk_put (cs := #[.int .i64 0, .slice none 0 0]) ?_ 1 _ rfl; refine blk_put (cs := #[.int .i64 0, .slice none 0 0]) ?_ 0 _ rfl; exact KR2.out) Try.underlying49 rfl (by kernel_rfl)) rfl ?_
  exact ⟨_, rfl, Kd.S_nil _ _ _ _ _, below_set (below_set HB2.out g6) g6⟩
 have h := H.out
 rw [if_pos hss] at h
 by_cases hqp : q = p
 case neg =>
  rw [if_neg hqp] at h
  have ew : wrongR s0 s1 p q = 2 := by unfold wrongR; rw [if_pos hss, if_neg hqp]
  rw [ew]
  have e0 : ((0 : Int), ([] : List S89), (2 : Int)) = (r1, r2, r3) := Option.some.inj h
  cases e0
  clear h hss hqp ew H
  go_wp2
  refine bodyPost_ret (results_ct rfl _ _ B6 49 #[.int .i64 0, .slice none 0 0] (0, 0) _ rfl (by refine blk_put (cs := #[.int .i64 0, .slice none 0 0]) ?_ 1 _ rfl; refine blk_put (cs := #[.int .i64 0, .slice none 0 0]) ?_ 0 _ rfl; exact KR2.out) Try.underlying49 rfl (by kernel_rfl)) rfl ?_
  exact ⟨_, rfl, Kd.S_nil _ _ _ _ _, below_set (below_set HB2.out g6) g6⟩
 rw [if_pos hqp] at h
 have ew : wrongR s0 s1 p q = 0 := by unfold wrongR; rw [if_pos hss, if_pos hqp]
 rw [ew]
 obtain ⟨v, hv, h⟩ := Option.bind_eq_some_iff.mp h
 have HV := Aside0.mk hv
 have H2 := Aside0.mk h
 clear h hv hss hqp ew H
 go_wp2_with fail
 refine (impl_valueOk.calls k p kk v w2 HV.out).mono ?_
 rintro e w3 ⟨rfl, hb3⟩
 have K33 := Aside0.mk (blk_below K3.out hb3)
 have K43 := Aside0.mk (blk_below K4.out hb3)
 have KR3 := Aside0.mk (blk_below KR2.out hb3)
 have HB3 := Aside0.mk (below_step HB2.out hb3)
 clear hb3 hx0 hq0 hq1 hf0 hf1 K3 K4 KR2 HB2
 cases v
 ·have e0 : ((0 : Int), ([] : List S89), (2 : Int)) = (r1, r2, r3) := by have h := H2.out; rw [if_neg (by simp)] at h; exact Option.some.inj h
  cases e0
  have hq0 : w3.cell? ⟨B6, 0, none⟩ = some (.int .i64 0) := (blk_cell KR3.out 0).trans rfl
  have hq1 : w3.cell? ⟨B6, 1, none⟩ = some (.slice none 0 0) := (blk_cell KR3.out 1).trans rfl
  have hf0 := blk_frozen KR3.out 0
  have hf1 := blk_frozen KR3.out 1
  go_wp2
  refine bodyPost_ret (results_ct rfl _ _ B6 49 #[.int .i64 0, .slice none 0 0] (0, 0) _ rfl (by refine blk_put (cs := #[.int .i64 0, .slice none 0 0]) ?_ 1 _ rfl; refine blk_put (cs := #[.int .i64 0, .slice none 0 0]) ?_ 0 _ rfl; exact KR3.out) Try.underlying49 rfl (by kernel_rfl)) rfl ?_
  exact ⟨_, rfl, Kd.S_nil _ _ _ _ _, below_set (below_set HB3.out g6) g6⟩
 have h := H2.out
 rw [if_pos (by first | rfl | trivial)] at h
 obtain ⟨r, hpl, hlr⟩ := Option.bind_eq_some_iff.mp h
 obtain ⟨a0, yy⟩ := r
 have HPL := Aside0.mk hpl
 have HLR := Aside0.mk (show limR a0 yy = (r1, r2, r3) from Option.some.inj hlr)
 clear h hpl hlr H2
 have hx0 : w3.cell? ⟨B3, 0, none⟩ = some (.int .i64 p) := (blk_cell K33.out 0).trans rfl
 have hy0 : w3.cell? ⟨B3, 1, none⟩ = some (.slice A xs.length c) := (blk_cell K33.out 1).trans rfl
 have hy2 : w3.cell? ⟨B4, 0, none⟩ = some (.int .i64 q) := (blk_cell K43.out 0).trans rfl
 have hy3 : w3.cell? ⟨B4, 1, none⟩ = some (.slice A' ys.length c') := (blk_cell K43.out 1).trans rfl
 go_wp2_with fail
 clear hx0 hy0 hy2 hy3 K33 K43
 refine (impl_plus.calls p A c xs q A' c' ys kk a0 yy w3 (Kd.C_below HR0.out HB3.out) HC0.out (Kd.C_below HR1.out HB3.out) HC1.out HPL.out).mono ?_
 rintro e w4 ⟨v4, rfl, hS4, hb4⟩
 have HS4 := Aside0.mk (Kd.S_lower hS4 HB3.out.size)
 have HB4 := Aside0.mk (below_step HB3.out hb4)
 have KR4 := Aside0.mk (blk_below KR3.out hb4)
 clear hS4 hb4 KR3 HB3
 go_wp2_with fail
 refine (impl_limited_S.calls a0 v4 yy w w4 HB4.out HS4.out).mono ?_
 rw [HLR.out]
 rintro e w5 ⟨v5, rfl, hS5, hb5, hb6⟩
 have HS5 := Aside0.mk (show Kd.S k89 89 w5 w.heap.size (fun _ => True) v5 r2 from hS5)
 have HB5 := Aside0.mk hb5
 have KR5 := Aside0.mk (blk_below KR4.out hb6)
 clear hS5 hb5 hb6
 have hq0 : w5.cell? ⟨B6, 0, none⟩ = some (.int .i64 0) := (blk_cell KR5.out 0).trans rfl
 have hq1 : w5.cell? ⟨B6, 1, none⟩ = some (.slice none 0 0) := (blk_cell KR5.out 1).trans rfl
 have hf0 := blk_frozen KR5.out 0
 have hf1 := blk_frozen KR5.out 1
 obtain ⟨Au, cu, eu⟩ := Kd.S_slice HS5.out
 subst eu
 go_wp2
 refine bodyPost_ret (results_ct rfl _ _ B6 49 #[.int .i64 r1, .slice Au r2.length cu] (0, 0) _ rfl (by refine blk_put (cs := #[.int .i64 r1, .slice none 0 0]) ?_ 1 _ rfl; refine blk_put (cs := #[.int .i64 0, .slice none 0 0]) ?_ 0 _ rfl; exact KR5.out) Try.underlying49 rfl (by kernel_rfl)) rfl ?_
 exact ⟨_, rfl, Kd.S_set (Kd.S_set HS5.out KR5.out (by decide) 0 _) (blk_put KR5.out 0 _ rfl) (by decide) 1 _, below_set (below_set HB5.out g6) g6⟩
theorem laws_FnExactAddSums.range {w0 W w' : World} {v : Value} {r : List S89} (h : Kd.S k89 89 w' W.heap.size (fun _ => True) v r) (hb : w0.heap.size ≤ W.heap.size) : Kd.S k89 89 w' w0.heap.size (fun k_ => W.heap.size ≤ k_ ∧ k_ < w'.heap.size) v r := Kd.S_lower (Kd.S_mono (Kd.S_bound h) (fun k_ h_ => ⟨h_.2.1, h_.2.2.1⟩)) hb
def laws_FnExactAddSums.Told (z0 : Int) (l0 : List S110) (z1 : Int) (l1 : List S110) (i2 : Int) (k : Nat) (c m g0 : Int) (g1 p1 : List S89) (s0 m10 : Int) (y0 q0 : List S89) (s1 m11 : Int) (y1 q1 : List S89) : Prop :=
 laws_toSum.f k z0 l0 = some (z0, y0) ∧ laws_eqSum.f k z0 y0 z0 y0 = some true ∧ laws_toSum.f k z1 l1 = some (z1, y1) ∧ laws_eqSum.f k z1 y1 z1 y1 = some true ∧ laws_szSum.f k z0 l0 1048576 = some s0 ∧ laws_szSum.f k z1 l1 s0 = some s1 ∧ spec_AddSums.f k z0 y0 z1 y1 i2 = some (g0, g1, c) ∧ impl_AddSums.f k z0 y0 z1 y1 i2 = some (g0, g1, c) ∧ laws_eqSum.f k g0 g1 g0 g1 = some true ∧ laws_markSum.f k y0 1 = some (m10, q0) ∧ laws_markSum.f k y1 m10 = some (m11, q1) ∧ laws_markSum.f k g1 1 = some (m, p1) ∧ laws_heldSum.f k g0 p1 1 = some m ∧ 0 ≤ m ∧ 0 ≤ m11 ∧ 0 ≤ s0 ∧ 0 ≤ s1
def laws_FnExactAddSums.T8 : Bool × List (List Nat × List Nat) := (true, [([], []), ([0], [0]), ([], []), ([2, 1], [2]), ([], []), ([1, 3, 4, 3], [1, 3, 4]), ([5], [5]), ([6], [6]), ([6], [6]), ([], []), ([9, 7, 5, 0, 1, 2, 3, 4, 5, 6, 7, 9], [7, 9]), ([8, 10, 0, 1, 2, 3, 4, 5, 6, 7, 8, 9, 10], [8])])
def laws_FnExactAddSums.B8 : List Nat := [0, 1, 0, 7, 0, 31, 63, 127, 127, 0, 767, 2047]
theorem laws_FnExactAddSums.tab8 : rtab .any (opsOf Try.f13 8) = laws_FnExactAddSums.T8 := by kernel_rfl
theorem laws_FnExactAddSums.bits8 : waitsOk laws_FnExactAddSums.T8.2 laws_FnExactAddSums.B8 = true := by kernel_rfl
def laws_FnExactAddSums.T31 : Bool × List (List Nat × List Nat) := (true, [([], []), ([0], [0]), ([], []), ([2, 1], [2]), ([], []), ([1, 3, 4, 3], [1, 3, 4]), ([5], [5]), ([6], [6]), ([6], [6]), ([], []), ([9, 7, 5, 0, 1, 2, 3, 4, 5, 6, 7, 9], [7, 9]), ([8, 10, 0, 1, 2, 3, 4, 5, 6, 7, 8, 9, 10], [8])])
def laws_FnExactAddSums.B31 : List Nat := [0, 1, 0, 7, 0, 31, 63, 127, 127, 0, 767, 2047]
theorem laws_FnExactAddSums.tab31 : rtab .any (opsOf Try.f13 31) = laws_FnExactAddSums.T31 := by kernel_rfl
theorem laws_FnExactAddSums.bits31 : waitsOk laws_FnExactAddSums.T31.2 laws_FnExactAddSums.B31 = true := by kernel_rfl
set_option maxHeartbeats 16000000 in
set_option maxRecDepth 100000 in
theorem laws_FnExactAddSums.one (A0 : Option Addr) (c0 : Nat) (z0 : Int) (l0 : List S110) (A1 : Option Addr) (c1 : Nat) (z1 : Int) (l1 : List S110) (i2 : Int) (w : World) (hr0 : Kd.C k110 w A0 l0.length l0) (hc0 : l0.length ≤ c0) (hr1 : Kd.C k110 w A1 l1.length l1) (hc1 : l1.length ≤ c1) (k : Nat) (c m g0 : Int) (g1 p1 : List S89) (s0 m10 : Int) (y0 q0 : List S89) (s1 m11 : Int) (y1 q1 : List S89) (h : laws_FnExactAddSums.Told z0 l0 z1 l1 i2 k c m g0 g1 p1 s0 m10 y0 q0 s1 m11 y1 q1) :
  Calls Try.prog 13 #[.agg #[.int .i64 z0, .slice A0 l0.length c0], .agg #[.int .i64 z1, .slice A1 l1.length c1], .int .i64 i2] w fun e w' => e = .returned (.bool true) ∧ Below w.heap.size w w' := by
 have huB := Try.underlying49
 have huA := Try.underlying44
 obtain ⟨h_FT0, h_FQ0, h_FT1, h_FQ1, h_FZ0, h_FZ1, h_FS, h_FI, h_FE, h_FK0, h_FK1, h_FM, h_FH, hb_0, hb_1, hb_2, hb_3⟩ := h
 have FT0 := Aside0.mk h_FT0
 clear h_FT0
 have FQ0 := Aside0.mk h_FQ0
 clear h_FQ0
 have FT1 := Aside0.mk h_FT1
 clear h_FT1
 have FQ1 := Aside0.mk h_FQ1
 clear h_FQ1
 have FZ0 := Aside0.mk h_FZ0
 clear h_FZ0
 have FZ1 := Aside0.mk h_FZ1
 clear h_FZ1
 have FS := Aside0.mk h_FS
 clear h_FS
 have FI := Aside0.mk h_FI
 clear h_FI
 have FE := Aside0.mk h_FE
 clear h_FE
 have FK0 := Aside0.mk h_FK0
 clear h_FK0
 have FK1 := Aside0.mk h_FK1
 clear h_FK1
 have FM := Aside0.mk h_FM
 clear h_FM
 have FH := Aside0.mk h_FH
 clear h_FH
 have d3 : decide (m < 0) = false := decide_eq_false (by omega)
 have d2 : decide (m11 < 0) = false := decide_eq_false (by omega)
 have ds0 : decide (s0 < 0) = false := decide_eq_false (by omega)
 have ds1 : decide (s1 < 0) = false := decide_eq_false (by omega)
 clear hb_0 hb_1 hb_2 hb_3
 have HB := Aside0.mk (Below.refl w.heap.size w)
 have HA0 := Aside0.mk hr0
 have HC0 := Aside0.mk hc0
 clear hr0 hc0
 have HA1 := Aside0.mk hr1
 have HC1 := Aside0.mk hc1
 clear hr1 hc1
 have HW0 := HB
 go_enter Try.func13, Try.ntmps13
 have hn_P0_0 : (w.alloc (.cells #[.int .i64 z0, .slice A0 l0.length c0] 44)).cell? ⟨w.heap.size, 0, none⟩ = some (.int .i64 z0) := (blk_cell (blk_new w (.cells #[.int .i64 z0, .slice A0 l0.length c0] 44)) 0).trans rfl
 have hn_P0_1 : (w.alloc (.cells #[.int .i64 z0, .slice A0 l0.length c0] 44)).cell? ⟨w.heap.size, 1, none⟩ = some (.slice A0 l0.length c0) := (blk_cell (blk_new w (.cells #[.int .i64 z0, .slice A0 l0.length c0] 44)) 1).trans rfl
 have hn_P1_0 : ((w.alloc (.cells #[.int .i64 z0, .slice A0 l0.length c0] 44)).alloc (.cells #[.int .i64 z1, .slice A1 l1.length c1] 44)).cell? ⟨w.heap.size + 1, 0, none⟩ = some (.int .i64 z1) := by
  have e_ := blk_cell (blk_new (w.alloc (.cells #[.int .i64 z0, .slice A0 l0.length c0] 44)) (.cells #[.int .i64 z1, .slice A1 l1.length c1] 44)) 0
  rw [show (w.alloc (.cells #[.int .i64 z0, .slice A0 l0.length c0] 44)).heap.size = w.heap.size + 1 by simp] at e_
  exact e_.trans rfl
 have hn_P1_1 : ((w.alloc (.cells #[.int .i64 z0, .slice A0 l0.length c0] 44)).alloc (.cells #[.int .i64 z1, .slice A1 l1.length c1] 44)).cell? ⟨w.heap.size + 1, 1, none⟩ = some (.slice A1 l1.length c1) := by
  have e_ := blk_cell (blk_new (w.alloc (.cells #[.int .i64 z0, .slice A0 l0.length c0] 44)) (.cells #[.int .i64 z1, .slice A1 l1.length c1] 44)) 1
  rw [show (w.alloc (.cells #[.int .i64 z0, .slice A0 l0.length c0] 44)).heap.size = w.heap.size + 1 by simp] at e_
  exact e_.trans rfl
 go_wp2_with fail
 obtain ⟨w1, h_⟩ : ∃ x_ : World, w.alloc (.cells #[.int .i64 z0, .slice A0 l0.length c0] 44) = x_ := ⟨_, rfl⟩
 rw [h_]
 have B_ : Aside0 (Below w.heap.size w w1) := ⟨by rw [← h_]; exact below_alloc (Below.refl _ _) _⟩
 have KP0 : Aside0 (w1.heap[w.heap.size]? = some (.cells #[.int .i64 z0, .slice A0 l0.length c0] 44 (0, 0))) := ⟨by rw [← h_]; exact blk_new _ _⟩
 have E_ : w1.heap.size = w.heap.size + 1 := by rw [← h_]; simp
 clear h_
 replace HB := Aside0.mk (below_step HB.out B_.out)
 have Z0 := Aside0.mk (B_.out).size
 clear B_
 have Z1 := Aside0.mk (blk_lt KP0.out)
 obtain ⟨w2, h_⟩ : ∃ x_ : World, w1.alloc (.cells #[.int .i64 z1, .slice A1 l1.length c1] 44) = x_ := ⟨_, rfl⟩
 rw [h_]
 have B_ : Aside0 (Below w1.heap.size w1 w2) := ⟨by rw [← h_]; exact below_alloc (Below.refl _ _) _⟩
 have KP1 : Aside0 (w2.heap[w1.heap.size]? = some (.cells #[.int .i64 z1, .slice A1 l1.length c1] 44 (0, 0))) := ⟨by rw [← h_]; exact blk_new _ _⟩
 rw [E_] at KP1
 clear E_
 clear h_
 replace KP0 := Aside0.mk (blk_below KP0.out B_.out)
 replace HB := Aside0.mk (below_step HB.out B_.out)
 have Z2 := Aside0.mk (B_.out).size
 clear B_
 have Z3 := Aside0.mk (blk_lt KP1.out)
 refine (laws_szSum.calls k z0 _ _ l0 1048576 s0 _ (Kd.C_below HA0.out HB.out) HC0.out FZ0.out).mono ?_
 rintro e w3 ⟨rfl, hb⟩
 clear hn_P0_0 hn_P0_1
 have B_ := Aside0.mk hb
 clear hb
 replace KP0 := Aside0.mk (blk_below KP0.out B_.out)
 replace KP1 := Aside0.mk (blk_below KP1.out B_.out)
 replace HB := Aside0.mk (below_step HB.out B_.out)
 have Z4 := Aside0.mk (B_.out).size
 clear B_
 have hz_P0_0_0 : w3.cell? ⟨w.heap.size, 0, none⟩ = some (.int .i64 z0) := (blk_cell (KP0.out) 0).trans rfl
 have hz_P0_1_1 : w3.cell? ⟨w.heap.size, 1, none⟩ = some (.slice A0 l0.length c0) := (blk_cell (KP0.out) 1).trans rfl
 have hz_P1_0_2 : w3.cell? ⟨(w.heap.size + 1), 0, none⟩ = some (.int .i64 z1) := (blk_cell (KP1.out) 0).trans rfl
 have hz_P1_1_3 : w3.cell? ⟨(w.heap.size + 1), 1, none⟩ = some (.slice A1 l1.length c1) := (blk_cell (KP1.out) 1).trans rfl
 go_wp2_with fail
 refine (laws_szSum.calls k z1 _ _ l1 s0 s1 _ (Kd.C_below HA1.out HB.out) HC1.out FZ1.out).mono ?_
 rintro e w4 ⟨rfl, hb⟩
 clear hz_P0_0_0 hz_P0_1_1 hz_P1_0_2 hz_P1_1_3
 have B_ := Aside0.mk hb
 clear hb
 replace KP0 := Aside0.mk (blk_below KP0.out B_.out)
 replace KP1 := Aside0.mk (blk_below KP1.out B_.out)
 replace HB := Aside0.mk (below_step HB.out B_.out)
 have Z5 := Aside0.mk (B_.out).size
 clear B_
 have hz_P0_0_0 : w4.cell? ⟨w.heap.size, 0, none⟩ = some (.int .i64 z0) := (blk_cell (KP0.out) 0).trans rfl
 have hz_P0_1_1 : w4.cell? ⟨w.heap.size, 1, none⟩ = some (.slice A0 l0.length c0) := (blk_cell (KP0.out) 1).trans rfl
 have hz_P1_0_2 : w4.cell? ⟨(w.heap.size + 1), 0, none⟩ = some (.int .i64 z1) := (blk_cell (KP1.out) 0).trans rfl
 have hz_P1_1_3 : w4.cell? ⟨(w.heap.size + 1), 1, none⟩ = some (.slice A1 l1.length c1) := (blk_cell (KP1.out) 1).trans rfl
 go_wp2_with fail
 have hz_P0_0_0 : w4.cell? ⟨w.heap.size, 0, none⟩ = some (.int .i64 z0) := (blk_cell (KP0.out) 0).trans rfl
 have hz_P0_1_1 : w4.cell? ⟨w.heap.size, 1, none⟩ = some (.slice A0 l0.length c0) := (blk_cell (KP0.out) 1).trans rfl
 have hz_P1_0_2 : w4.cell? ⟨(w.heap.size + 1), 0, none⟩ = some (.int .i64 z1) := (blk_cell (KP1.out) 0).trans rfl
 have hz_P1_1_3 : w4.cell? ⟨(w.heap.size + 1), 1, none⟩ = some (.slice A1 l1.length c1) := (blk_cell (KP1.out) 1).trans rfl
 try go_wp2_with fail
 clear hz_P0_0_0 hz_P0_1_1 hz_P1_0_2 hz_P1_1_3
 have B_ : Aside0 (Below w4.heap.size w4 w4.drew) := ⟨below_drew1 (Below.refl _ _)⟩
 replace KP0 := Aside0.mk (blk_below KP0.out B_.out)
 replace KP1 := Aside0.mk (blk_below KP1.out B_.out)
 replace HB := Aside0.mk (below_step HB.out B_.out)
 have Z6 := Aside0.mk (B_.out).size
 clear B_
 refine start_ (n := 12) (S := fun w' => w'.cell? ⟨w.heap.size, 0, none⟩ = some (.int .i64 z0) ∧ w'.cell? ⟨w.heap.size, 1, none⟩ = some (.slice A0 l0.length c0) ∧ w'.cell? ⟨(w.heap.size + 1), 0, none⟩ = some (.int .i64 z1) ∧ w'.cell? ⟨(w.heap.size + 1), 1, none⟩ = some (.slice A1 l1.length c1)) (ds := [10]) #[false, false, false, false, false, false, false, false, false, false, false, false] (by kernel_rfl) rfl rfl ⟨(blk_cell KP0.out 0).trans rfl, (blk_cell KP0.out 1).trans rfl, (blk_cell KP1.out 0).trans rfl, (blk_cell KP1.out 1).trans rfl⟩ (fun hHeld => ?_)
 refine with_tabW laws_FnExactAddSums.tab8 laws_FnExactAddSums.bits8 (fun HT_ HW_ => ?_)
 generalize w4.drew = w5 at KP0 KP1 HB Z6 hHeld ⊢
 have HD0 := Aside0.mk (Below.refl w5.heap.size w5)
 refine pure_ (i := 4) (N := some 34) (v := ?_) (a' := ?_) (bv 12 16) rfl rfl (any_of HT_.out (by kernel_rfl)) (fun _ _ _ h => h) (Or.inl ⟨by rfl, ?_⟩) ?_ ?_
 rotate_left
 ·intro w'
  go_simp
  with_reducible rfl
 rotate_left
 ·simp only [Act.put, sA, sZ, sS, i64_w, i32_w]
  rfl
 refine take_ (i := 0) (N := some 30) (v := ?_) (a' := ?_) (bv 12 17) rfl rfl (take_ofW HT_.out HW_.out (by kernel_rfl)) (fun _ _ _ h => h) (Or.inl ⟨by rfl, ?_⟩) hHeld ?_ ?_
 rotate_left
 ·rintro w' ⟨s0, s1, s2, s3⟩
  go_simp
  with_reducible rfl
 rotate_left
 ·simp only [Act.put, sA, sZ, sS, i64_w, i32_w]
  rfl
 refine take_ (i := 2) (N := some 32) (v := ?_) (a' := ?_) (bv 12 21) rfl rfl (take_ofW HT_.out HW_.out (by kernel_rfl)) (fun _ _ _ h => h) (Or.inl ⟨by rfl, ?_⟩) hHeld ?_ ?_
 rotate_left
 ·rintro w' ⟨s0, s1, s2, s3⟩
  go_simp
  with_reducible rfl
 rotate_left
 ·simp only [Act.put, sA, sZ, sS, i64_w, i32_w]
  rfl
 refine join_ (σ := Nat × Value × Value × Value) 2 (bv 12 1023) (fun s => [(31, s.2.1), (33, s.2.2.1), (35, .tuple #[.agg #[.int .i64 g0, s.2.2.2], .int .i64 c]), (29, .tuple #[.agg #[.int .i64 g0, s.2.2.2], .int .i64 c]), (36, .agg #[.int .i64 g0, s.2.2.2]), (37, .int .i64 c), (8, .pointer (some ⟨s.1, 0, none⟩))]) (fun s w' => w'.heap[s.1]? = some (.cells #[.int .i64 0, .slice none 0 0] 49 (0, 0)) ∧ w5.heap.size ≤ s.1 ∧ Kd.V k89 89 w' w5.heap.size (fun k_ => (w5.heap.size ≤ k_ ∧ k_ < w'.heap.size) ∧ k_ ≠ s.1) s.2.2.2 g1 ∧ Below w5.heap.size w5 w') ?_ ?_
 rotate_left
 ·intro hCont
  refine two_ (i := 1) (j := 9) (Ni := some 31) (Nj := some 8) (bv 12 23) (bv 12 533) rfl rfl rfl rfl (two_of HT_.out (by kernel_rfl)) (by decide) (by decide) (fun K hK => ?_) (fun K hK => ?_)
  ·skip
   refine goes_ Try.func35 (by kernel_rfl) rfl #[.agg #[.int .i64 z0, .slice A0 l0.length c0]] (by rfl) rfl rfl (by simp only [List.map_toArray, List.map_cons, List.map_nil]; rfl) ?_
   refine (laws_toSum.calls k z0 _ _ l0 z0 y0 _ (Kd.C_below HA0.out (below_step HB.out HD0.out)) HC0.out FT0.out).mono ?_
   rintro e wf1 ⟨v_, rfl, ho, hb⟩
   refine ⟨_, rfl, ?_⟩
   have HD1 := Aside0.mk (below_step HD0.out hb)
   have HZ0 := Aside0.mk hb.size
   have Sf0 := Aside0.mk (laws_FnExactAddSums.range ho HD0.out.size)
   clear ho hb
   obtain ⟨Af0, cf0, e_⟩ := Kd.S_slice Sf0.out
   subst e_
   refine hK.out _ _ ⟨(blk_cell (blk_below KP0.out HD1.out) 0).trans rfl, (blk_cell (blk_below KP0.out HD1.out) 1).trans rfl, (blk_cell (blk_below KP1.out HD1.out) 0).trans rfl, (blk_cell (blk_below KP1.out HD1.out) 1).trans rfl⟩ (fun hHeld => ?_)
   clear hK K
   refine norm_ (a' := ?_) ?_ ?_
   rotate_left
   ·show Act.put _ (some 31) _ = _
    simp only [Act.put, sA, sZ, sS, i64_w, i32_w]
    rfl
   refine two_ (i := 3) (j := 9) (Ni := some 33) (Nj := some 8) (bv 12 31) (bv 12 535) rfl rfl rfl rfl (two_of HT_.out (by kernel_rfl)) (by decide) (by decide) (fun K hK => ?_) (fun K hK => ?_)
   ·skip
    refine goes_ Try.func35 (by kernel_rfl) rfl #[.agg #[.int .i64 z1, .slice A1 l1.length c1]] (by rfl) rfl rfl (by simp only [List.map_toArray, List.map_cons, List.map_nil]; rfl) ?_
    refine (laws_toSum.calls k z1 _ _ l1 z1 y1 _ (Kd.C_below HA1.out (below_step HB.out HD1.out)) HC1.out FT1.out).mono ?_
    rintro e wf2 ⟨v_, rfl, ho, hb⟩
    refine ⟨_, rfl, ?_⟩
    replace Sf0 := Aside0.mk (Kd.S_below Sf0.out hb)
    have HD2 := Aside0.mk (below_step HD1.out hb)
    have HZ1 := Aside0.mk hb.size
    have Sf1 := Aside0.mk (laws_FnExactAddSums.range ho HD1.out.size)
    clear ho hb
    obtain ⟨Af1, cf1, e_⟩ := Kd.S_slice Sf1.out
    subst e_
    refine hK.out _ _ ⟨(blk_cell (blk_below KP0.out HD2.out) 0).trans rfl, (blk_cell (blk_below KP0.out HD2.out) 1).trans rfl, (blk_cell (blk_below KP1.out HD2.out) 0).trans rfl, (blk_cell (blk_below KP1.out HD2.out) 1).trans rfl⟩ (fun hHeld => ?_)
    clear hK K
    refine norm_ (a' := ?_) ?_ ?_
    rotate_left
    ·show Act.put _ (some 33) _ = _
     simp only [Act.put, sA, sZ, sS, i64_w, i32_w]
     rfl
    refine two_ (i := 5) (j := 9) (Ni := some 35) (Nj := some 8) (bv 12 63) (bv 12 543) rfl rfl rfl rfl (two_of HT_.out (by kernel_rfl)) (by decide) (by decide) (fun K hK => ?_) (fun K hK => ?_)
    ·skip
     refine goes_ Try.func48 (by kernel_rfl) rfl #[.agg #[.int .i64 z0, .slice Af0 y0.length cf0], .agg #[.int .i64 z1, .slice Af1 y1.length cf1], .int .i64 i2] (by rfl) rfl rfl (by simp only [List.map_toArray, List.map_cons, List.map_nil]; rfl) ?_
     refine (spec_AddSums.calls k z0 _ _ _ y0 z1 _ _ y1 i2 g0 g1 c _ (Kd.S_V Sf0.out) (Kd.S_reads' Sf1.out).2.2 (Kd.S_reads' Sf1.out).2.1 FS.out).mono ?_
     rintro e wf3 ⟨vr_, rfl, ho, hb⟩
     refine ⟨_, rfl, ?_⟩
     replace Sf0 := Aside0.mk (Kd.S_below Sf0.out hb)
     replace Sf1 := Aside0.mk (Kd.S_below Sf1.out hb)
     have HD3 := Aside0.mk (below_step HD2.out hb)
     have HZ2 := Aside0.mk hb.size
     have HO_ := Aside0.mk (Kd.V_bound ho)
     clear ho hb
     refine hK.out _ _ ⟨(blk_cell (blk_below KP0.out HD3.out) 0).trans rfl, (blk_cell (blk_below KP0.out HD3.out) 1).trans rfl, (blk_cell (blk_below KP1.out HD3.out) 0).trans rfl, (blk_cell (blk_below KP1.out HD3.out) 1).trans rfl⟩ (fun hHeld => ?_)
     clear hK K
     refine norm_ (a' := ?_) ?_ ?_
     rotate_left
     ·show Act.put _ (some 35) _ = _
      simp only [Act.put, sA, sZ, sS, i64_w, i32_w]
      rfl
     refine pure_ (i := 6) (N := some 29) (v := ?_) (a' := ?_) (bv 12 127) rfl rfl (any_of HT_.out (by kernel_rfl)) (fun _ _ _ h => h) (Or.inl ⟨by rfl, ?_⟩) ?_ ?_
     rotate_left
     ·intro w'
      go_simp
      with_reducible rfl
     rotate_left
     ·simp only [Act.put, sA, sZ, sS, i64_w, i32_w]
      rfl
     refine pure_ (i := 7) (N := some 36) (v := ?_) (a' := ?_) (bv 12 255) rfl rfl (any_of HT_.out (by kernel_rfl)) (fun _ _ _ h => h) (Or.inl ⟨by rfl, ?_⟩) ?_ ?_
     rotate_left
     ·intro w'
      go_simp
      with_reducible rfl
     rotate_left
     ·simp only [Act.put, sA, sZ, sS, i64_w, i32_w]
      rfl
     refine pure_ (i := 8) (N := some 37) (v := ?_) (a' := ?_) (bv 12 511) rfl rfl (any_of HT_.out (by kernel_rfl)) (fun _ _ _ h => h) (Or.inl ⟨by rfl, ?_⟩) ?_ ?_
     rotate_left
     ·intro w'
      go_simp
      with_reducible rfl
     rotate_left
     ·simp only [Act.put, sA, sZ, sS, i64_w, i32_w]
      rfl
     refine one_ (i := 9) (N := some 8) (bv 12 1023) rfl rfl (one_of HT_.out (by kernel_rfl)) (by decide) (fun K hK => ?_)
     refine box_step (by rfl) (N := 8) rfl (cs := #[.int .i64 0, .slice none 0 0]) (t := 49) ?hr ?_
     case hr => first | (go_simp; done) | (go_simp; rfl)
     intro gb_ hg_ wf4 hbox hb
     replace Sf0 := Aside0.mk (Kd.S_below Sf0.out hb)
     replace Sf1 := Aside0.mk (Kd.S_below Sf1.out hb)
     replace HO_ := Aside0.mk (Kd.V_below HO_.out hb)
     have HD4 := Aside0.mk (below_step HD3.out hb)
     have HZ3 := Aside0.mk hb.size
     have Hb_ := Aside0.mk hbox
     have HG_ : Aside0 (w5.heap.size ≤ gb_) := ⟨by have := HD3.out.size; omega⟩
     have HE_ := Aside0.mk hg_
     have HL_ := Aside0.mk (blk_lt hbox)
     clear hg_ hbox hb
     refine hK.out _ _ ⟨(blk_cell (blk_below KP0.out HD4.out) 0).trans rfl, (blk_cell (blk_below KP0.out HD4.out) 1).trans rfl, (blk_cell (blk_below KP1.out HD4.out) 0).trans rfl, (blk_cell (blk_below KP1.out HD4.out) 1).trans rfl⟩ (fun hHeld => ?_)
     clear hK K
     refine norm_ (a' := ?_) ?_ ?_
     rotate_left
     ·show Act.put _ (some 8) _ = _
      simp only [Act.put, sA, sZ, sS, i64_w, i32_w]
      rfl
     exact norm_ (by simp only [putAll, Act.put, sA, sZ, sS]) (hCont (gb_, .agg #[.int .i64 z0, .slice Af0 y0.length cf0], .agg #[.int .i64 z1, .slice Af1 y1.length cf1], vr_) _ ⟨Hb_.out, HG_.out, Kd.V_mono (Kd.V_bound HO_.out) (fun k_ hk => by have := HE_.out; have := HL_.out; have := HZ0.out; have := HD0.out.size; have := HZ1.out; have := HD1.out.size; have := HZ2.out; have := HD2.out.size; have := HZ3.out; have := HD3.out.size; omega), HD4.out⟩)
    skip
    refine box_step (by rfl) (N := 8) rfl (cs := #[.int .i64 0, .slice none 0 0]) (t := 49) ?hr ?_
    case hr => first | (go_simp; done) | (go_simp; rfl)
    intro gb_ hg_ wf3 hbox hb
    replace Sf0 := Aside0.mk (Kd.S_below Sf0.out hb)
    replace Sf1 := Aside0.mk (Kd.S_below Sf1.out hb)
    have HD3 := Aside0.mk (below_step HD2.out hb)
    have HZ2 := Aside0.mk hb.size
    have Hb_ := Aside0.mk hbox
    have HG_ : Aside0 (w5.heap.size ≤ gb_) := ⟨by have := HD2.out.size; omega⟩
    have HE_ := Aside0.mk hg_
    have HL_ := Aside0.mk (blk_lt hbox)
    clear hg_ hbox hb
    refine hK.out _ _ ⟨(blk_cell (blk_below KP0.out HD3.out) 0).trans rfl, (blk_cell (blk_below KP0.out HD3.out) 1).trans rfl, (blk_cell (blk_below KP1.out HD3.out) 0).trans rfl, (blk_cell (blk_below KP1.out HD3.out) 1).trans rfl⟩ (fun hHeld => ?_)
    clear hK K
    refine norm_ (a' := ?_) ?_ ?_
    rotate_left
    ·show Act.put _ (some 8) _ = _
     simp only [Act.put, sA, sZ, sS, i64_w, i32_w]
     rfl
    refine one_ (i := 5) (N := some 35) (bv 12 575) rfl rfl (one_of HT_.out (by kernel_rfl)) (by decide) (fun K hK => ?_)
    refine goes_ Try.func48 (by kernel_rfl) rfl #[.agg #[.int .i64 z0, .slice Af0 y0.length cf0], .agg #[.int .i64 z1, .slice Af1 y1.length cf1], .int .i64 i2] (by rfl) rfl rfl (by simp only [List.map_toArray, List.map_cons, List.map_nil]; rfl) ?_
    refine (spec_AddSums.calls k z0 _ _ _ y0 z1 _ _ y1 i2 g0 g1 c _ (Kd.S_V Sf0.out) (Kd.S_reads' Sf1.out).2.2 (Kd.S_reads' Sf1.out).2.1 FS.out).mono ?_
    rintro e wf4 ⟨vr_, rfl, ho, hb⟩
    refine ⟨_, rfl, ?_⟩
    replace Sf0 := Aside0.mk (Kd.S_below Sf0.out hb)
    replace Sf1 := Aside0.mk (Kd.S_below Sf1.out hb)
    replace Hb_ := Aside0.mk (blk_below Hb_.out hb)
    have HD4 := Aside0.mk (below_step HD3.out hb)
    have HZ3 := Aside0.mk hb.size
    have HO_ := Aside0.mk (Kd.V_bound ho)
    clear ho hb
    refine hK.out _ _ ⟨(blk_cell (blk_below KP0.out HD4.out) 0).trans rfl, (blk_cell (blk_below KP0.out HD4.out) 1).trans rfl, (blk_cell (blk_below KP1.out HD4.out) 0).trans rfl, (blk_cell (blk_below KP1.out HD4.out) 1).trans rfl⟩ (fun hHeld => ?_)
    clear hK K
    refine norm_ (a' := ?_) ?_ ?_
    rotate_left
    ·show Act.put _ (some 35) _ = _
     simp only [Act.put, sA, sZ, sS, i64_w, i32_w]
     rfl
    refine pure_ (i := 6) (N := some 29) (v := ?_) (a' := ?_) (bv 12 639) rfl rfl (any_of HT_.out (by kernel_rfl)) (fun _ _ _ h => h) (Or.inl ⟨by rfl, ?_⟩) ?_ ?_
    rotate_left
    ·intro w'
     go_simp
     with_reducible rfl
    rotate_left
    ·simp only [Act.put, sA, sZ, sS, i64_w, i32_w]
     rfl
    refine pure_ (i := 7) (N := some 36) (v := ?_) (a' := ?_) (bv 12 767) rfl rfl (any_of HT_.out (by kernel_rfl)) (fun _ _ _ h => h) (Or.inl ⟨by rfl, ?_⟩) ?_ ?_
    rotate_left
    ·intro w'
     go_simp
     with_reducible rfl
    rotate_left
    ·simp only [Act.put, sA, sZ, sS, i64_w, i32_w]
     rfl
    refine pure_ (i := 8) (N := some 37) (v := ?_) (a' := ?_) (bv 12 1023) rfl rfl (any_of HT_.out (by kernel_rfl)) (fun _ _ _ h => h) (Or.inl ⟨by rfl, ?_⟩) ?_ ?_
    rotate_left
    ·intro w'
     go_simp
     with_reducible rfl
    rotate_left
    ·simp only [Act.put, sA, sZ, sS, i64_w, i32_w]
     rfl
    exact norm_ (by simp only [putAll, Act.put, sA, sZ, sS]) (hCont (gb_, .agg #[.int .i64 z0, .slice Af0 y0.length cf0], .agg #[.int .i64 z1, .slice Af1 y1.length cf1], vr_) _ ⟨Hb_.out, HG_.out, Kd.V_mono (Kd.V_bound HO_.out) (fun k_ hk => by have := HE_.out; have := HL_.out; have := HZ0.out; have := HD0.out.size; have := HZ1.out; have := HD1.out.size; have := HZ2.out; have := HD2.out.size; have := HZ3.out; have := HD3.out.size; omega), HD4.out⟩)
   skip
   refine box_step (by rfl) (N := 8) rfl (cs := #[.int .i64 0, .slice none 0 0]) (t := 49) ?hr ?_
   case hr => first | (go_simp; done) | (go_simp; rfl)
   intro gb_ hg_ wf2 hbox hb
   replace Sf0 := Aside0.mk (Kd.S_below Sf0.out hb)
   have HD2 := Aside0.mk (below_step HD1.out hb)
   have HZ1 := Aside0.mk hb.size
   have Hb_ := Aside0.mk hbox
   have HG_ : Aside0 (w5.heap.size ≤ gb_) := ⟨by have := HD1.out.size; omega⟩
   have HE_ := Aside0.mk hg_
   have HL_ := Aside0.mk (blk_lt hbox)
   clear hg_ hbox hb
   refine hK.out _ _ ⟨(blk_cell (blk_below KP0.out HD2.out) 0).trans rfl, (blk_cell (blk_below KP0.out HD2.out) 1).trans rfl, (blk_cell (blk_below KP1.out HD2.out) 0).trans rfl, (blk_cell (blk_below KP1.out HD2.out) 1).trans rfl⟩ (fun hHeld => ?_)
   clear hK K
   refine norm_ (a' := ?_) ?_ ?_
   rotate_left
   ·show Act.put _ (some 8) _ = _
    simp only [Act.put, sA, sZ, sS, i64_w, i32_w]
    rfl
   refine one_ (i := 3) (N := some 33) (bv 12 543) rfl rfl (one_of HT_.out (by kernel_rfl)) (by decide) (fun K hK => ?_)
   refine goes_ Try.func35 (by kernel_rfl) rfl #[.agg #[.int .i64 z1, .slice A1 l1.length c1]] (by rfl) rfl rfl (by simp only [List.map_toArray, List.map_cons, List.map_nil]; rfl) ?_
   refine (laws_toSum.calls k z1 _ _ l1 z1 y1 _ (Kd.C_below HA1.out (below_step HB.out HD2.out)) HC1.out FT1.out).mono ?_
   rintro e wf3 ⟨v_, rfl, ho, hb⟩
   refine ⟨_, rfl, ?_⟩
   replace Sf0 := Aside0.mk (Kd.S_below Sf0.out hb)
   replace Hb_ := Aside0.mk (blk_below Hb_.out hb)
   have HD3 := Aside0.mk (below_step HD2.out hb)
   have HZ2 := Aside0.mk hb.size
   have Sf1 := Aside0.mk (laws_FnExactAddSums.range ho HD2.out.size)
   clear ho hb
   obtain ⟨Af1, cf1, e_⟩ := Kd.S_slice Sf1.out
   subst e_
   refine hK.out _ _ ⟨(blk_cell (blk_below KP0.out HD3.out) 0).trans rfl, (blk_cell (blk_below KP0.out HD3.out) 1).trans rfl, (blk_cell (blk_below KP1.out HD3.out) 0).trans rfl, (blk_cell (blk_below KP1.out HD3.out) 1).trans rfl⟩ (fun hHeld => ?_)
   clear hK K
   refine norm_ (a' := ?_) ?_ ?_
   rotate_left
   ·show Act.put _ (some 33) _ = _
    simp only [Act.put, sA, sZ, sS, i64_w, i32_w]
    rfl
   refine one_ (i := 5) (N := some 35) (bv 12 575) rfl rfl (one_of HT_.out (by kernel_rfl)) (by decide) (fun K hK => ?_)
   refine goes_ Try.func48 (by kernel_rfl) rfl #[.agg #[.int .i64 z0, .slice Af0 y0.length cf0], .agg #[.int .i64 z1, .slice Af1 y1.length cf1], .int .i64 i2] (by rfl) rfl rfl (by simp only [List.map_toArray, List.map_cons, List.map_nil]; rfl) ?_
   refine (spec_AddSums.calls k z0 _ _ _ y0 z1 _ _ y1 i2 g0 g1 c _ (Kd.S_V Sf0.out) (Kd.S_reads' Sf1.out).2.2 (Kd.S_reads' Sf1.out).2.1 FS.out).mono ?_
   rintro e wf4 ⟨vr_, rfl, ho, hb⟩
   refine ⟨_, rfl, ?_⟩
   replace Sf0 := Aside0.mk (Kd.S_below Sf0.out hb)
   replace Hb_ := Aside0.mk (blk_below Hb_.out hb)
   replace Sf1 := Aside0.mk (Kd.S_below Sf1.out hb)
   have HD4 := Aside0.mk (below_step HD3.out hb)
   have HZ3 := Aside0.mk hb.size
   have HO_ := Aside0.mk (Kd.V_bound ho)
   clear ho hb
   refine hK.out _ _ ⟨(blk_cell (blk_below KP0.out HD4.out) 0).trans rfl, (blk_cell (blk_below KP0.out HD4.out) 1).trans rfl, (blk_cell (blk_below KP1.out HD4.out) 0).trans rfl, (blk_cell (blk_below KP1.out HD4.out) 1).trans rfl⟩ (fun hHeld => ?_)
   clear hK K
   refine norm_ (a' := ?_) ?_ ?_
   rotate_left
   ·show Act.put _ (some 35) _ = _
    simp only [Act.put, sA, sZ, sS, i64_w, i32_w]
    rfl
   refine pure_ (i := 6) (N := some 29) (v := ?_) (a' := ?_) (bv 12 639) rfl rfl (any_of HT_.out (by kernel_rfl)) (fun _ _ _ h => h) (Or.inl ⟨by rfl, ?_⟩) ?_ ?_
   rotate_left
   ·intro w'
    go_simp
    with_reducible rfl
   rotate_left
   ·simp only [Act.put, sA, sZ, sS, i64_w, i32_w]
    rfl
   refine pure_ (i := 7) (N := some 36) (v := ?_) (a' := ?_) (bv 12 767) rfl rfl (any_of HT_.out (by kernel_rfl)) (fun _ _ _ h => h) (Or.inl ⟨by rfl, ?_⟩) ?_ ?_
   rotate_left
   ·intro w'
    go_simp
    with_reducible rfl
   rotate_left
   ·simp only [Act.put, sA, sZ, sS, i64_w, i32_w]
    rfl
   refine pure_ (i := 8) (N := some 37) (v := ?_) (a' := ?_) (bv 12 1023) rfl rfl (any_of HT_.out (by kernel_rfl)) (fun _ _ _ h => h) (Or.inl ⟨by rfl, ?_⟩) ?_ ?_
   rotate_left
   ·intro w'
    go_simp
    with_reducible rfl
   rotate_left
   ·simp only [Act.put, sA, sZ, sS, i64_w, i32_w]
    rfl
   exact norm_ (by simp only [putAll, Act.put, sA, sZ, sS]) (hCont (gb_, .agg #[.int .i64 z0, .slice Af0 y0.length cf0], .agg #[.int .i64 z1, .slice Af1 y1.length cf1], vr_) _ ⟨Hb_.out, HG_.out, Kd.V_mono (Kd.V_bound HO_.out) (fun k_ hk => by have := HE_.out; have := HL_.out; have := HZ0.out; have := HD0.out.size; have := HZ1.out; have := HD1.out.size; have := HZ2.out; have := HD2.out.size; have := HZ3.out; have := HD3.out.size; omega), HD4.out⟩)
  skip
  refine box_step (by rfl) (N := 8) rfl (cs := #[.int .i64 0, .slice none 0 0]) (t := 49) ?hr ?_
  case hr => first | (go_simp; done) | (go_simp; rfl)
  intro gb_ hg_ wf1 hbox hb
  have HD1 := Aside0.mk (below_step HD0.out hb)
  have HZ0 := Aside0.mk hb.size
  have Hb_ := Aside0.mk hbox
  have HG_ : Aside0 (w5.heap.size ≤ gb_) := ⟨by have := HD0.out.size; omega⟩
  have HE_ := Aside0.mk hg_
  have HL_ := Aside0.mk (blk_lt hbox)
  clear hg_ hbox hb
  refine hK.out _ _ ⟨(blk_cell (blk_below KP0.out HD1.out) 0).trans rfl, (blk_cell (blk_below KP0.out HD1.out) 1).trans rfl, (blk_cell (blk_below KP1.out HD1.out) 0).trans rfl, (blk_cell (blk_below KP1.out HD1.out) 1).trans rfl⟩ (fun hHeld => ?_)
  clear hK K
  refine norm_ (a' := ?_) ?_ ?_
  rotate_left
  ·show Act.put _ (some 8) _ = _
   simp only [Act.put, sA, sZ, sS, i64_w, i32_w]
   rfl
  refine one_ (i := 1) (N := some 31) (bv 12 535) rfl rfl (one_of HT_.out (by kernel_rfl)) (by decide) (fun K hK => ?_)
  refine goes_ Try.func35 (by kernel_rfl) rfl #[.agg #[.int .i64 z0, .slice A0 l0.length c0]] (by rfl) rfl rfl (by simp only [List.map_toArray, List.map_cons, List.map_nil]; rfl) ?_
  refine (laws_toSum.calls k z0 _ _ l0 z0 y0 _ (Kd.C_below HA0.out (below_step HB.out HD1.out)) HC0.out FT0.out).mono ?_
  rintro e wf2 ⟨v_, rfl, ho, hb⟩
  refine ⟨_, rfl, ?_⟩
  replace Hb_ := Aside0.mk (blk_below Hb_.out hb)
  have HD2 := Aside0.mk (below_step HD1.out hb)
  have HZ1 := Aside0.mk hb.size
  have Sf0 := Aside0.mk (laws_FnExactAddSums.range ho HD1.out.size)
  clear ho hb
  obtain ⟨Af0, cf0, e_⟩ := Kd.S_slice Sf0.out
  subst e_
  refine hK.out _ _ ⟨(blk_cell (blk_below KP0.out HD2.out) 0).trans rfl, (blk_cell (blk_below KP0.out HD2.out) 1).trans rfl, (blk_cell (blk_below KP1.out HD2.out) 0).trans rfl, (blk_cell (blk_below KP1.out HD2.out) 1).trans rfl⟩ (fun hHeld => ?_)
  clear hK K
  refine norm_ (a' := ?_) ?_ ?_
  rotate_left
  ·show Act.put _ (some 31) _ = _
   simp only [Act.put, sA, sZ, sS, i64_w, i32_w]
   rfl
  refine one_ (i := 3) (N := some 33) (bv 12 543) rfl rfl (one_of HT_.out (by kernel_rfl)) (by decide) (fun K hK => ?_)
  refine goes_ Try.func35 (by kernel_rfl) rfl #[.agg #[.int .i64 z1, .slice A1 l1.length c1]] (by rfl) rfl rfl (by simp only [List.map_toArray, List.map_cons, List.map_nil]; rfl) ?_
  refine (laws_toSum.calls k z1 _ _ l1 z1 y1 _ (Kd.C_below HA1.out (below_step HB.out HD2.out)) HC1.out FT1.out).mono ?_
  rintro e wf3 ⟨v_, rfl, ho, hb⟩
  refine ⟨_, rfl, ?_⟩
  replace Hb_ := Aside0.mk (blk_below Hb_.out hb)
  replace Sf0 := Aside0.mk (Kd.S_below Sf0.out hb)
  have HD3 := Aside0.mk (below_step HD2.out hb)
  have HZ2 := Aside0.mk hb.size
  have Sf1 := Aside0.mk (laws_FnExactAddSums.range ho HD2.out.size)
  clear ho hb
  obtain ⟨Af1, cf1, e_⟩ := Kd.S_slice Sf1.out
  subst e_
  refine hK.out _ _ ⟨(blk_cell (blk_below KP0.out HD3.out) 0).trans rfl, (blk_cell (blk_below KP0.out HD3.out) 1).trans rfl, (blk_cell (blk_below KP1.out HD3.out) 0).trans rfl, (blk_cell (blk_below KP1.out HD3.out) 1).trans rfl⟩ (fun hHeld => ?_)
  clear hK K
  refine norm_ (a' := ?_) ?_ ?_
  rotate_left
  ·show Act.put _ (some 33) _ = _
   simp only [Act.put, sA, sZ, sS, i64_w, i32_w]
   rfl
  refine one_ (i := 5) (N := some 35) (bv 12 575) rfl rfl (one_of HT_.out (by kernel_rfl)) (by decide) (fun K hK => ?_)
  refine goes_ Try.func48 (by kernel_rfl) rfl #[.agg #[.int .i64 z0, .slice Af0 y0.length cf0], .agg #[.int .i64 z1, .slice Af1 y1.length cf1], .int .i64 i2] (by rfl) rfl rfl (by simp only [List.map_toArray, List.map_cons, List.map_nil]; rfl) ?_
  refine (spec_AddSums.calls k z0 _ _ _ y0 z1 _ _ y1 i2 g0 g1 c _ (Kd.S_V Sf0.out) (Kd.S_reads' Sf1.out).2.2 (Kd.S_reads' Sf1.out).2.1 FS.out).mono ?_
  rintro e wf4 ⟨vr_, rfl, ho, hb⟩
  refine ⟨_, rfl, ?_⟩
  replace Hb_ := Aside0.mk (blk_below Hb_.out hb)
  replace Sf0 := Aside0.mk (Kd.S_below Sf0.out hb)
  replace Sf1 := Aside0.mk (Kd.S_below Sf1.out hb)
  have HD4 := Aside0.mk (below_step HD3.out hb)
  have HZ3 := Aside0.mk hb.size
  have HO_ := Aside0.mk (Kd.V_bound ho)
  clear ho hb
  refine hK.out _ _ ⟨(blk_cell (blk_below KP0.out HD4.out) 0).trans rfl, (blk_cell (blk_below KP0.out HD4.out) 1).trans rfl, (blk_cell (blk_below KP1.out HD4.out) 0).trans rfl, (blk_cell (blk_below KP1.out HD4.out) 1).trans rfl⟩ (fun hHeld => ?_)
  clear hK K
  refine norm_ (a' := ?_) ?_ ?_
  rotate_left
  ·show Act.put _ (some 35) _ = _
   simp only [Act.put, sA, sZ, sS, i64_w, i32_w]
   rfl
  refine pure_ (i := 6) (N := some 29) (v := ?_) (a' := ?_) (bv 12 639) rfl rfl (any_of HT_.out (by kernel_rfl)) (fun _ _ _ h => h) (Or.inl ⟨by rfl, ?_⟩) ?_ ?_
  rotate_left
  ·intro w'
   go_simp
   with_reducible rfl
  rotate_left
  ·simp only [Act.put, sA, sZ, sS, i64_w, i32_w]
   rfl
  refine pure_ (i := 7) (N := some 36) (v := ?_) (a' := ?_) (bv 12 767) rfl rfl (any_of HT_.out (by kernel_rfl)) (fun _ _ _ h => h) (Or.inl ⟨by rfl, ?_⟩) ?_ ?_
  rotate_left
  ·intro w'
   go_simp
   with_reducible rfl
  rotate_left
  ·simp only [Act.put, sA, sZ, sS, i64_w, i32_w]
   rfl
  refine pure_ (i := 8) (N := some 37) (v := ?_) (a' := ?_) (bv 12 1023) rfl rfl (any_of HT_.out (by kernel_rfl)) (fun _ _ _ h => h) (Or.inl ⟨by rfl, ?_⟩) ?_ ?_
  rotate_left
  ·intro w'
   go_simp
   with_reducible rfl
  rotate_left
  ·simp only [Act.put, sA, sZ, sS, i64_w, i32_w]
   rfl
  exact norm_ (by simp only [putAll, Act.put, sA, sZ, sS]) (hCont (gb_, .agg #[.int .i64 z0, .slice Af0 y0.length cf0], .agg #[.int .i64 z1, .slice Af1 y1.length cf1], vr_) _ ⟨Hb_.out, HG_.out, Kd.V_mono (Kd.V_bound HO_.out) (fun k_ hk => by have := HE_.out; have := HL_.out; have := HZ0.out; have := HD0.out.size; have := HZ1.out; have := HD1.out.size; have := HZ2.out; have := HD2.out.size; have := HZ3.out; have := HD3.out.size; omega), HD4.out⟩)
 rintro ⟨gbW, v1_, v2_, v_⟩ wjW ⟨hbox, hg, ho, hb⟩
 have hHeld : wjW.cell? ⟨w.heap.size, 0, none⟩ = some (.int .i64 z0) ∧ wjW.cell? ⟨w.heap.size, 1, none⟩ = some (.slice A0 l0.length c0) ∧ wjW.cell? ⟨(w.heap.size + 1), 0, none⟩ = some (.int .i64 z1) ∧ wjW.cell? ⟨(w.heap.size + 1), 1, none⟩ = some (.slice A1 l1.length c1) := ⟨(blk_cell (blk_below KP0.out hb) 0).trans rfl, (blk_cell (blk_below KP0.out hb) 1).trans rfl, (blk_cell (blk_below KP1.out hb) 0).trans rfl, (blk_cell (blk_below KP1.out hb) 1).trans rfl⟩
 have hq0 : wjW.cell? ⟨gbW, 0, none⟩ = some (.int .i64 0) := (blk_cell hbox 0).trans rfl
 have hq1 : wjW.cell? ⟨gbW, 1, none⟩ = some (.slice none 0 0) := (blk_cell hbox 1).trans rfl
 have hf0 := blk_frozen hbox 0
 have hf1 := blk_frozen hbox 1
 obtain ⟨AW, cW, e_⟩ := Kd.V_slice ho
 subst e_
 refine norm_ (a' := ?_) ?_ ?_
 rotate_left
 ·simp only [putAll, Act.put, sA, sZ, sS]
  rfl
 refine last_ (i := 10) (N := none) (bv 12 2047) rfl rfl (one_of HT_.out (by kernel_rfl)) (by decide) (fun K hK => ?_)
 refine skip_ (w1 := ?_) (by rfl) rfl ?_ ?_
 rotate_left
 ·go_simp
  rfl
 refine hK.out _ _ ?_
 clear hK K
 refine pure_ (i := 11) (N := some 9) (v := ?_) (a' := ?_) (bv 12 4095) rfl rfl (any_of HT_.out (by kernel_rfl)) (fun _ _ _ h => h) (Or.inl ⟨by rfl, ?_⟩) ?_ ?_
 rotate_left
 ·intro w'
  go_simp
  with_reducible rfl
 rotate_left
 ·simp only [Act.put, sA, sZ, sS, i64_w, i32_w]
  rfl
 refine done_ (done_of HT_.out (by kernel_rfl)) ?_
 clear HD0 hq0 hq1 hf0 hf1
 have k_ := blk_put (cs' := #[.int .i64 g0, .slice AW g1.length cW]) (blk_put (cs' := #[.int .i64 g0, .slice none 0 0]) hbox 0 (.int .i64 g0) rfl) 1 (.slice AW g1.length cW) rfl
 have o_ := Kd.V_far (p := ⟨gbW, 1, none⟩) (Kd.V_far (p := ⟨gbW, 0, none⟩) ho (fun _ hk => hk.2) (.int .i64 g0)) (fun _ hk => hk.2) (.slice AW g1.length cW)
 have b_ := below_set (below_set hb hg (j := 0) (v := .int .i64 g0)) hg (j := 1) (v := .slice AW g1.length cW)
 have Z7 := Aside0.mk hg
 clear hbox ho hb hg
 obtain ⟨w6, h_⟩ : ∃ x_ : World, (wjW.setCell ⟨gbW, 0, none⟩ (.int .i64 g0)).setCell ⟨gbW, 1, none⟩ (.slice AW g1.length cW) = x_ := ⟨_, rfl⟩
 rw [h_] at k_ o_ b_ ⊢
 clear h_
 have B_ := Aside0.mk b_
 have KW := Aside0.mk k_
 have SW : Aside0 (Kd.V k89 89 w6 w.heap.size (fun k_ => w5.heap.size ≤ k_ ∧ k_ < w6.heap.size) (.slice AW g1.length cW) g1) := ⟨Kd.V_mono (Kd.V_bound o_) (fun k_ hk => ⟨hk.1.1.1, hk.2⟩)⟩
 clear b_ k_ o_
 replace KP0 := Aside0.mk (blk_below KP0.out B_.out)
 replace KP1 := Aside0.mk (blk_below KP1.out B_.out)
 replace HB := Aside0.mk (below_step HB.out B_.out)
 have Z8 := Aside0.mk (B_.out).size
 clear B_
 have Z9 := Aside0.mk (blk_lt KW.out)
 have hz_P0_0_0 : w6.cell? ⟨w.heap.size, 0, none⟩ = some (.int .i64 z0) := (blk_cell (KP0.out) 0).trans rfl
 have hz_P0_1_1 : w6.cell? ⟨w.heap.size, 1, none⟩ = some (.slice A0 l0.length c0) := (blk_cell (KP0.out) 1).trans rfl
 have hz_P1_0_2 : w6.cell? ⟨(w.heap.size + 1), 0, none⟩ = some (.int .i64 z1) := (blk_cell (KP1.out) 0).trans rfl
 have hz_P1_1_3 : w6.cell? ⟨(w.heap.size + 1), 1, none⟩ = some (.slice A1 l1.length c1) := (blk_cell (KP1.out) 1).trans rfl
 have hz_W_0_4 : w6.cell? ⟨gbW, 0, none⟩ = some (.int .i64 g0) := (blk_cell (KW.out) 0).trans rfl
 have hz_W_1_5 : w6.cell? ⟨gbW, 1, none⟩ = some (.slice AW g1.length cW) := (blk_cell (KW.out) 1).trans rfl
 go_wp2_with fail
 refine (laws_toSum.calls k z0 _ _ l0 z0 y0 _ (Kd.C_below HA0.out HB.out) HC0.out FT0.out).mono ?_
 rintro e w7 ⟨v_, rfl, ho, hb⟩
 clear hz_P0_0_0 hz_P0_1_1 hz_P1_0_2 hz_P1_1_3 hz_W_0_4 hz_W_1_5
 have Sx0_ := Aside0.mk (laws_FnExactAddSums.range ho HB.out.size)
 have B_ := Aside0.mk hb
 clear ho hb
 replace KP0 := Aside0.mk (blk_below KP0.out B_.out)
 replace KP1 := Aside0.mk (blk_below KP1.out B_.out)
 replace KW := Aside0.mk (blk_below KW.out B_.out)
 replace SW := Aside0.mk (Kd.V_below SW.out B_.out)
 replace HB := Aside0.mk (below_step HB.out B_.out)
 have Z10 := Aside0.mk (B_.out).size
 clear B_
 have Sx0 := Sx0_
 clear Sx0_
 obtain ⟨Ax0, cx0, e_⟩ := Kd.S_slice Sx0.out
 subst e_
 have hz_P0_0_0 : w7.cell? ⟨w.heap.size, 0, none⟩ = some (.int .i64 z0) := (blk_cell (KP0.out) 0).trans rfl
 have hz_P0_1_1 : w7.cell? ⟨w.heap.size, 1, none⟩ = some (.slice A0 l0.length c0) := (blk_cell (KP0.out) 1).trans rfl
 have hz_P1_0_2 : w7.cell? ⟨(w.heap.size + 1), 0, none⟩ = some (.int .i64 z1) := (blk_cell (KP1.out) 0).trans rfl
 have hz_P1_1_3 : w7.cell? ⟨(w.heap.size + 1), 1, none⟩ = some (.slice A1 l1.length c1) := (blk_cell (KP1.out) 1).trans rfl
 have hz_W_0_4 : w7.cell? ⟨gbW, 0, none⟩ = some (.int .i64 g0) := (blk_cell (KW.out) 0).trans rfl
 have hz_W_1_5 : w7.cell? ⟨gbW, 1, none⟩ = some (.slice AW g1.length cW) := (blk_cell (KW.out) 1).trans rfl
 have ha0_P0_0 : (w7.alloc (.cells #[.int .i64 z0, .slice Ax0 y0.length cx0] 49)).cell? ⟨w.heap.size, 0, none⟩ = some (.int .i64 z0) := (blk_cell (blk_alloc (KP0.out) _) 0).trans rfl
 have ha0_P0_1 : (w7.alloc (.cells #[.int .i64 z0, .slice Ax0 y0.length cx0] 49)).cell? ⟨w.heap.size, 1, none⟩ = some (.slice A0 l0.length c0) := (blk_cell (blk_alloc (KP0.out) _) 1).trans rfl
 have ha0_P1_0 : (w7.alloc (.cells #[.int .i64 z0, .slice Ax0 y0.length cx0] 49)).cell? ⟨(w.heap.size + 1), 0, none⟩ = some (.int .i64 z1) := (blk_cell (blk_alloc (KP1.out) _) 0).trans rfl
 have ha0_P1_1 : (w7.alloc (.cells #[.int .i64 z0, .slice Ax0 y0.length cx0] 49)).cell? ⟨(w.heap.size + 1), 1, none⟩ = some (.slice A1 l1.length c1) := (blk_cell (blk_alloc (KP1.out) _) 1).trans rfl
 have ha0_W_0 : (w7.alloc (.cells #[.int .i64 z0, .slice Ax0 y0.length cx0] 49)).cell? ⟨gbW, 0, none⟩ = some (.int .i64 g0) := (blk_cell (blk_alloc (KW.out) _) 0).trans rfl
 have ha0_W_1 : (w7.alloc (.cells #[.int .i64 z0, .slice Ax0 y0.length cx0] 49)).cell? ⟨gbW, 1, none⟩ = some (.slice AW g1.length cW) := (blk_cell (blk_alloc (KW.out) _) 1).trans rfl
 have hn_X0_0 : (w7.alloc (.cells #[.int .i64 z0, .slice Ax0 y0.length cx0] 49)).cell? ⟨w7.heap.size, 0, none⟩ = some (.int .i64 z0) := (blk_cell (blk_new w7 (.cells #[.int .i64 z0, .slice Ax0 y0.length cx0] 49)) 0).trans rfl
 have hn_X0_1 : (w7.alloc (.cells #[.int .i64 z0, .slice Ax0 y0.length cx0] 49)).cell? ⟨w7.heap.size, 1, none⟩ = some (.slice Ax0 y0.length cx0) := (blk_cell (blk_new w7 (.cells #[.int .i64 z0, .slice Ax0 y0.length cx0] 49)) 1).trans rfl
 go_wp2_with fail
 obtain ⟨w8, h_⟩ : ∃ x_ : World, w7.alloc (.cells #[.int .i64 z0, .slice Ax0 y0.length cx0] 49) = x_ := ⟨_, rfl⟩
 rw [h_]
 have B_ : Aside0 (Below w7.heap.size w7 w8) := ⟨by rw [← h_]; exact below_alloc (Below.refl _ _) _⟩
 have KX0 : Aside0 (w8.heap[w7.heap.size]? = some (.cells #[.int .i64 z0, .slice Ax0 y0.length cx0] 49 (0, 0))) := ⟨by rw [← h_]; exact blk_new _ _⟩
 clear h_
 replace KP0 := Aside0.mk (blk_below KP0.out B_.out)
 replace KP1 := Aside0.mk (blk_below KP1.out B_.out)
 replace KW := Aside0.mk (blk_below KW.out B_.out)
 replace SW := Aside0.mk (Kd.V_below SW.out B_.out)
 replace Sx0 := Aside0.mk (Kd.S_below Sx0.out B_.out)
 replace HB := Aside0.mk (below_step HB.out B_.out)
 have Z11 := Aside0.mk (B_.out).size
 clear B_
 have Z12 := Aside0.mk (blk_lt KX0.out)
 refine (laws_toSum.calls k z1 _ _ l1 z1 y1 _ (Kd.C_below HA1.out HB.out) HC1.out FT1.out).mono ?_
 rintro e w9 ⟨v_, rfl, ho, hb⟩
 clear hz_P0_0_0 hz_P0_1_1 hz_P1_0_2 hz_P1_1_3 hz_W_0_4 hz_W_1_5 ha0_P0_0 ha0_P0_1 ha0_P1_0 ha0_P1_1 ha0_W_0 ha0_W_1 hn_X0_0 hn_X0_1
 have Sx1_ := Aside0.mk (laws_FnExactAddSums.range ho HB.out.size)
 have B_ := Aside0.mk hb
 clear ho hb
 replace KP0 := Aside0.mk (blk_below KP0.out B_.out)
 replace KP1 := Aside0.mk (blk_below KP1.out B_.out)
 replace KW := Aside0.mk (blk_below KW.out B_.out)
 replace KX0 := Aside0.mk (blk_below KX0.out B_.out)
 replace SW := Aside0.mk (Kd.V_below SW.out B_.out)
 replace Sx0 := Aside0.mk (Kd.S_below Sx0.out B_.out)
 replace HB := Aside0.mk (below_step HB.out B_.out)
 have Z13 := Aside0.mk (B_.out).size
 clear B_
 have Sx1 := Sx1_
 clear Sx1_
 obtain ⟨Ax1, cx1, e_⟩ := Kd.S_slice Sx1.out
 subst e_
 have hz_P0_0_0 : w9.cell? ⟨w.heap.size, 0, none⟩ = some (.int .i64 z0) := (blk_cell (KP0.out) 0).trans rfl
 have hz_P0_1_1 : w9.cell? ⟨w.heap.size, 1, none⟩ = some (.slice A0 l0.length c0) := (blk_cell (KP0.out) 1).trans rfl
 have hz_P1_0_2 : w9.cell? ⟨(w.heap.size + 1), 0, none⟩ = some (.int .i64 z1) := (blk_cell (KP1.out) 0).trans rfl
 have hz_P1_1_3 : w9.cell? ⟨(w.heap.size + 1), 1, none⟩ = some (.slice A1 l1.length c1) := (blk_cell (KP1.out) 1).trans rfl
 have hz_W_0_4 : w9.cell? ⟨gbW, 0, none⟩ = some (.int .i64 g0) := (blk_cell (KW.out) 0).trans rfl
 have hz_W_1_5 : w9.cell? ⟨gbW, 1, none⟩ = some (.slice AW g1.length cW) := (blk_cell (KW.out) 1).trans rfl
 have hz_X0_0_6 : w9.cell? ⟨w7.heap.size, 0, none⟩ = some (.int .i64 z0) := (blk_cell (KX0.out) 0).trans rfl
 have hz_X0_1_7 : w9.cell? ⟨w7.heap.size, 1, none⟩ = some (.slice Ax0 y0.length cx0) := (blk_cell (KX0.out) 1).trans rfl
 have ha0_P0_0 : (w9.alloc (.cells #[.int .i64 z1, .slice Ax1 y1.length cx1] 49)).cell? ⟨w.heap.size, 0, none⟩ = some (.int .i64 z0) := (blk_cell (blk_alloc (KP0.out) _) 0).trans rfl
 have ha0_P0_1 : (w9.alloc (.cells #[.int .i64 z1, .slice Ax1 y1.length cx1] 49)).cell? ⟨w.heap.size, 1, none⟩ = some (.slice A0 l0.length c0) := (blk_cell (blk_alloc (KP0.out) _) 1).trans rfl
 have ha0_P1_0 : (w9.alloc (.cells #[.int .i64 z1, .slice Ax1 y1.length cx1] 49)).cell? ⟨(w.heap.size + 1), 0, none⟩ = some (.int .i64 z1) := (blk_cell (blk_alloc (KP1.out) _) 0).trans rfl
 have ha0_P1_1 : (w9.alloc (.cells #[.int .i64 z1, .slice Ax1 y1.length cx1] 49)).cell? ⟨(w.heap.size + 1), 1, none⟩ = some (.slice A1 l1.length c1) := (blk_cell (blk_alloc (KP1.out) _) 1).trans rfl
 have ha0_W_0 : (w9.alloc (.cells #[.int .i64 z1, .slice Ax1 y1.length cx1] 49)).cell? ⟨gbW, 0, none⟩ = some (.int .i64 g0) := (blk_cell (blk_alloc (KW.out) _) 0).trans rfl
 have ha0_W_1 : (w9.alloc (.cells #[.int .i64 z1, .slice Ax1 y1.length cx1] 49)).cell? ⟨gbW, 1, none⟩ = some (.slice AW g1.length cW) := (blk_cell (blk_alloc (KW.out) _) 1).trans rfl
 have ha0_X0_0 : (w9.alloc (.cells #[.int .i64 z1, .slice Ax1 y1.length cx1] 49)).cell? ⟨w7.heap.size, 0, none⟩ = some (.int .i64 z0) := (blk_cell (blk_alloc (KX0.out) _) 0).trans rfl
 have ha0_X0_1 : (w9.alloc (.cells #[.int .i64 z1, .slice Ax1 y1.length cx1] 49)).cell? ⟨w7.heap.size, 1, none⟩ = some (.slice Ax0 y0.length cx0) := (blk_cell (blk_alloc (KX0.out) _) 1).trans rfl
 have hn_X1_0 : (w9.alloc (.cells #[.int .i64 z1, .slice Ax1 y1.length cx1] 49)).cell? ⟨w9.heap.size, 0, none⟩ = some (.int .i64 z1) := (blk_cell (blk_new w9 (.cells #[.int .i64 z1, .slice Ax1 y1.length cx1] 49)) 0).trans rfl
 have hn_X1_1 : (w9.alloc (.cells #[.int .i64 z1, .slice Ax1 y1.length cx1] 49)).cell? ⟨w9.heap.size, 1, none⟩ = some (.slice Ax1 y1.length cx1) := (blk_cell (blk_new w9 (.cells #[.int .i64 z1, .slice Ax1 y1.length cx1] 49)) 1).trans rfl
 go_wp2_with fail
 obtain ⟨w10, h_⟩ : ∃ x_ : World, w9.alloc (.cells #[.int .i64 z1, .slice Ax1 y1.length cx1] 49) = x_ := ⟨_, rfl⟩
 rw [h_]
 have B_ : Aside0 (Below w9.heap.size w9 w10) := ⟨by rw [← h_]; exact below_alloc (Below.refl _ _) _⟩
 have KX1 : Aside0 (w10.heap[w9.heap.size]? = some (.cells #[.int .i64 z1, .slice Ax1 y1.length cx1] 49 (0, 0))) := ⟨by rw [← h_]; exact blk_new _ _⟩
 clear h_
 replace KP0 := Aside0.mk (blk_below KP0.out B_.out)
 replace KP1 := Aside0.mk (blk_below KP1.out B_.out)
 replace KW := Aside0.mk (blk_below KW.out B_.out)
 replace KX0 := Aside0.mk (blk_below KX0.out B_.out)
 replace SW := Aside0.mk (Kd.V_below SW.out B_.out)
 replace Sx0 := Aside0.mk (Kd.S_below Sx0.out B_.out)
 replace Sx1 := Aside0.mk (Kd.S_below Sx1.out B_.out)
 replace HB := Aside0.mk (below_step HB.out B_.out)
 have Z14 := Aside0.mk (B_.out).size
 clear B_
 have Z15 := Aside0.mk (blk_lt KX1.out)
 refine (impl_AddSums.calls k z0 _ _ y0 z1 _ _ y1 i2 g0 g1 c _ (Kd.S_reads' Sx0.out).2.2 (Kd.S_reads' Sx0.out).2.1 (Kd.S_reads' Sx1.out).2.2 (Kd.S_reads' Sx1.out).2.1 FI.out).mono ?_
 rintro e w11 ⟨v_, rfl, ho, hb⟩
 clear hz_P0_0_0 hz_P0_1_1 hz_P1_0_2 hz_P1_1_3 hz_W_0_4 hz_W_1_5 hz_X0_0_6 hz_X0_1_7 ha0_P0_0 ha0_P0_1 ha0_P1_0 ha0_P1_1 ha0_W_0 ha0_W_1 ha0_X0_0 ha0_X0_1 hn_X1_0 hn_X1_1
 have Sg_ := Aside0.mk (laws_FnExactAddSums.range ho HB.out.size)
 have B_ := Aside0.mk hb
 clear ho hb
 replace KP0 := Aside0.mk (blk_below KP0.out B_.out)
 replace KP1 := Aside0.mk (blk_below KP1.out B_.out)
 replace KW := Aside0.mk (blk_below KW.out B_.out)
 replace KX0 := Aside0.mk (blk_below KX0.out B_.out)
 replace KX1 := Aside0.mk (blk_below KX1.out B_.out)
 replace SW := Aside0.mk (Kd.V_below SW.out B_.out)
 replace Sx0 := Aside0.mk (Kd.S_below Sx0.out B_.out)
 replace Sx1 := Aside0.mk (Kd.S_below Sx1.out B_.out)
 replace HB := Aside0.mk (below_step HB.out B_.out)
 have Z16 := Aside0.mk (B_.out).size
 clear B_
 have Sg := Sg_
 clear Sg_
 obtain ⟨Ag, cg, e_⟩ := Kd.S_slice Sg.out
 subst e_
 have hz_P0_0_0 : w11.cell? ⟨w.heap.size, 0, none⟩ = some (.int .i64 z0) := (blk_cell (KP0.out) 0).trans rfl
 have hz_P0_1_1 : w11.cell? ⟨w.heap.size, 1, none⟩ = some (.slice A0 l0.length c0) := (blk_cell (KP0.out) 1).trans rfl
 have hz_P1_0_2 : w11.cell? ⟨(w.heap.size + 1), 0, none⟩ = some (.int .i64 z1) := (blk_cell (KP1.out) 0).trans rfl
 have hz_P1_1_3 : w11.cell? ⟨(w.heap.size + 1), 1, none⟩ = some (.slice A1 l1.length c1) := (blk_cell (KP1.out) 1).trans rfl
 have hz_W_0_4 : w11.cell? ⟨gbW, 0, none⟩ = some (.int .i64 g0) := (blk_cell (KW.out) 0).trans rfl
 have hz_W_1_5 : w11.cell? ⟨gbW, 1, none⟩ = some (.slice AW g1.length cW) := (blk_cell (KW.out) 1).trans rfl
 have hz_X0_0_6 : w11.cell? ⟨w7.heap.size, 0, none⟩ = some (.int .i64 z0) := (blk_cell (KX0.out) 0).trans rfl
 have hz_X0_1_7 : w11.cell? ⟨w7.heap.size, 1, none⟩ = some (.slice Ax0 y0.length cx0) := (blk_cell (KX0.out) 1).trans rfl
 have hz_X1_0_8 : w11.cell? ⟨w9.heap.size, 0, none⟩ = some (.int .i64 z1) := (blk_cell (KX1.out) 0).trans rfl
 have hz_X1_1_9 : w11.cell? ⟨w9.heap.size, 1, none⟩ = some (.slice Ax1 y1.length cx1) := (blk_cell (KX1.out) 1).trans rfl
 have ha0_P0_0 : (w11.alloc (.cells #[.int .i64 g0, .slice Ag g1.length cg] 49)).cell? ⟨w.heap.size, 0, none⟩ = some (.int .i64 z0) := (blk_cell (blk_alloc (KP0.out) _) 0).trans rfl
 have ha0_P0_1 : (w11.alloc (.cells #[.int .i64 g0, .slice Ag g1.length cg] 49)).cell? ⟨w.heap.size, 1, none⟩ = some (.slice A0 l0.length c0) := (blk_cell (blk_alloc (KP0.out) _) 1).trans rfl
 have ha0_P1_0 : (w11.alloc (.cells #[.int .i64 g0, .slice Ag g1.length cg] 49)).cell? ⟨(w.heap.size + 1), 0, none⟩ = some (.int .i64 z1) := (blk_cell (blk_alloc (KP1.out) _) 0).trans rfl
 have ha0_P1_1 : (w11.alloc (.cells #[.int .i64 g0, .slice Ag g1.length cg] 49)).cell? ⟨(w.heap.size + 1), 1, none⟩ = some (.slice A1 l1.length c1) := (blk_cell (blk_alloc (KP1.out) _) 1).trans rfl
 have ha0_W_0 : (w11.alloc (.cells #[.int .i64 g0, .slice Ag g1.length cg] 49)).cell? ⟨gbW, 0, none⟩ = some (.int .i64 g0) := (blk_cell (blk_alloc (KW.out) _) 0).trans rfl
 have ha0_W_1 : (w11.alloc (.cells #[.int .i64 g0, .slice Ag g1.length cg] 49)).cell? ⟨gbW, 1, none⟩ = some (.slice AW g1.length cW) := (blk_cell (blk_alloc (KW.out) _) 1).trans rfl
 have ha0_X0_0 : (w11.alloc (.cells #[.int .i64 g0, .slice Ag g1.length cg] 49)).cell? ⟨w7.heap.size, 0, none⟩ = some (.int .i64 z0) := (blk_cell (blk_alloc (KX0.out) _) 0).trans rfl
 have ha0_X0_1 : (w11.alloc (.cells #[.int .i64 g0, .slice Ag g1.length cg] 49)).cell? ⟨w7.heap.size, 1, none⟩ = some (.slice Ax0 y0.length cx0) := (blk_cell (blk_alloc (KX0.out) _) 1).trans rfl
 have ha0_X1_0 : (w11.alloc (.cells #[.int .i64 g0, .slice Ag g1.length cg] 49)).cell? ⟨w9.heap.size, 0, none⟩ = some (.int .i64 z1) := (blk_cell (blk_alloc (KX1.out) _) 0).trans rfl
 have ha0_X1_1 : (w11.alloc (.cells #[.int .i64 g0, .slice Ag g1.length cg] 49)).cell? ⟨w9.heap.size, 1, none⟩ = some (.slice Ax1 y1.length cx1) := (blk_cell (blk_alloc (KX1.out) _) 1).trans rfl
 have hn_G_0 : (w11.alloc (.cells #[.int .i64 g0, .slice Ag g1.length cg] 49)).cell? ⟨w11.heap.size, 0, none⟩ = some (.int .i64 g0) := (blk_cell (blk_new w11 (.cells #[.int .i64 g0, .slice Ag g1.length cg] 49)) 0).trans rfl
 have hn_G_1 : (w11.alloc (.cells #[.int .i64 g0, .slice Ag g1.length cg] 49)).cell? ⟨w11.heap.size, 1, none⟩ = some (.slice Ag g1.length cg) := (blk_cell (blk_new w11 (.cells #[.int .i64 g0, .slice Ag g1.length cg] 49)) 1).trans rfl
 go_wp2_with fail
 obtain ⟨w12, h_⟩ : ∃ x_ : World, w11.alloc (.cells #[.int .i64 g0, .slice Ag g1.length cg] 49) = x_ := ⟨_, rfl⟩
 rw [h_]
 have B_ : Aside0 (Below w11.heap.size w11 w12) := ⟨by rw [← h_]; exact below_alloc (Below.refl _ _) _⟩
 have KG : Aside0 (w12.heap[w11.heap.size]? = some (.cells #[.int .i64 g0, .slice Ag g1.length cg] 49 (0, 0))) := ⟨by rw [← h_]; exact blk_new _ _⟩
 clear h_
 replace KP0 := Aside0.mk (blk_below KP0.out B_.out)
 replace KP1 := Aside0.mk (blk_below KP1.out B_.out)
 replace KW := Aside0.mk (blk_below KW.out B_.out)
 replace KX0 := Aside0.mk (blk_below KX0.out B_.out)
 replace KX1 := Aside0.mk (blk_below KX1.out B_.out)
 replace SW := Aside0.mk (Kd.V_below SW.out B_.out)
 replace Sx0 := Aside0.mk (Kd.S_below Sx0.out B_.out)
 replace Sx1 := Aside0.mk (Kd.S_below Sx1.out B_.out)
 replace Sg := Aside0.mk (Kd.S_below Sg.out B_.out)
 replace HB := Aside0.mk (below_step HB.out B_.out)
 have Z17 := Aside0.mk (B_.out).size
 clear B_
 have Z18 := Aside0.mk (blk_lt KG.out)
 refine (laws_eqSum.calls k g0 _ _ g1 g0 _ _ g1 true _ (Kd.S_reads' Sg.out).2.2 (Kd.S_reads' Sg.out).2.1 (Kd.V_reads' SW.out).2.2 (Kd.V_reads' SW.out).2.1 FE.out).mono ?_
 rintro e w13 ⟨rfl, hb⟩
 clear hz_P0_0_0 hz_P0_1_1 hz_P1_0_2 hz_P1_1_3 hz_W_0_4 hz_W_1_5 hz_X0_0_6 hz_X0_1_7 hz_X1_0_8 hz_X1_1_9 ha0_P0_0 ha0_P0_1 ha0_P1_0 ha0_P1_1 ha0_W_0 ha0_W_1 ha0_X0_0 ha0_X0_1 ha0_X1_0 ha0_X1_1 hn_G_0 hn_G_1
 have B_ := Aside0.mk hb
 clear hb
 replace KP0 := Aside0.mk (blk_below KP0.out B_.out)
 replace KP1 := Aside0.mk (blk_below KP1.out B_.out)
 replace KW := Aside0.mk (blk_below KW.out B_.out)
 replace KX0 := Aside0.mk (blk_below KX0.out B_.out)
 replace KX1 := Aside0.mk (blk_below KX1.out B_.out)
 replace KG := Aside0.mk (blk_below KG.out B_.out)
 replace SW := Aside0.mk (Kd.V_below SW.out B_.out)
 replace Sx0 := Aside0.mk (Kd.S_below Sx0.out B_.out)
 replace Sx1 := Aside0.mk (Kd.S_below Sx1.out B_.out)
 replace Sg := Aside0.mk (Kd.S_below Sg.out B_.out)
 replace HB := Aside0.mk (below_step HB.out B_.out)
 have Z19 := Aside0.mk (B_.out).size
 clear B_
 have hz_P0_0_0 : w13.cell? ⟨w.heap.size, 0, none⟩ = some (.int .i64 z0) := (blk_cell (KP0.out) 0).trans rfl
 have hz_P0_1_1 : w13.cell? ⟨w.heap.size, 1, none⟩ = some (.slice A0 l0.length c0) := (blk_cell (KP0.out) 1).trans rfl
 have hz_P1_0_2 : w13.cell? ⟨(w.heap.size + 1), 0, none⟩ = some (.int .i64 z1) := (blk_cell (KP1.out) 0).trans rfl
 have hz_P1_1_3 : w13.cell? ⟨(w.heap.size + 1), 1, none⟩ = some (.slice A1 l1.length c1) := (blk_cell (KP1.out) 1).trans rfl
 have hz_W_0_4 : w13.cell? ⟨gbW, 0, none⟩ = some (.int .i64 g0) := (blk_cell (KW.out) 0).trans rfl
 have hz_W_1_5 : w13.cell? ⟨gbW, 1, none⟩ = some (.slice AW g1.length cW) := (blk_cell (KW.out) 1).trans rfl
 have hz_X0_0_6 : w13.cell? ⟨w7.heap.size, 0, none⟩ = some (.int .i64 z0) := (blk_cell (KX0.out) 0).trans rfl
 have hz_X0_1_7 : w13.cell? ⟨w7.heap.size, 1, none⟩ = some (.slice Ax0 y0.length cx0) := (blk_cell (KX0.out) 1).trans rfl
 have hz_X1_0_8 : w13.cell? ⟨w9.heap.size, 0, none⟩ = some (.int .i64 z1) := (blk_cell (KX1.out) 0).trans rfl
 have hz_X1_1_9 : w13.cell? ⟨w9.heap.size, 1, none⟩ = some (.slice Ax1 y1.length cx1) := (blk_cell (KX1.out) 1).trans rfl
 have hz_G_0_10 : w13.cell? ⟨w11.heap.size, 0, none⟩ = some (.int .i64 g0) := (blk_cell (KG.out) 0).trans rfl
 have hz_G_1_11 : w13.cell? ⟨w11.heap.size, 1, none⟩ = some (.slice Ag g1.length cg) := (blk_cell (KG.out) 1).trans rfl
 try go_wp2_with fail
 clear hz_P0_0_0 hz_P0_1_1 hz_P1_0_2 hz_P1_1_3 hz_W_0_4 hz_W_1_5 hz_X0_0_6 hz_X0_1_7 hz_X1_0_8 hz_X1_1_9 hz_G_0_10 hz_G_1_11
 have B_ : Aside0 (Below w13.heap.size w13 w13.drew) := ⟨below_drew1 (Below.refl _ _)⟩
 replace KP0 := Aside0.mk (blk_below KP0.out B_.out)
 replace KP1 := Aside0.mk (blk_below KP1.out B_.out)
 replace KW := Aside0.mk (blk_below KW.out B_.out)
 replace KX0 := Aside0.mk (blk_below KX0.out B_.out)
 replace KX1 := Aside0.mk (blk_below KX1.out B_.out)
 replace KG := Aside0.mk (blk_below KG.out B_.out)
 replace SW := Aside0.mk (Kd.V_below SW.out B_.out)
 replace Sx0 := Aside0.mk (Kd.S_below Sx0.out B_.out)
 replace Sx1 := Aside0.mk (Kd.S_below Sx1.out B_.out)
 replace Sg := Aside0.mk (Kd.S_below Sg.out B_.out)
 replace HB := Aside0.mk (below_step HB.out B_.out)
 have Z20 := Aside0.mk (B_.out).size
 clear B_
 refine start_ (n := 5) (S := fun w' => w'.cell? ⟨w7.heap.size, 0, none⟩ = some (.int .i64 z0) ∧ w'.cell? ⟨w7.heap.size, 1, none⟩ = some (.slice Ax0 y0.length cx0) ∧ w'.cell? ⟨w.heap.size, 0, none⟩ = some (.int .i64 z0) ∧ w'.cell? ⟨w.heap.size, 1, none⟩ = some (.slice A0 l0.length c0)) (ds := []) #[false, false, false, false, false] (by kernel_rfl) rfl rfl ⟨(blk_cell KX0.out 0).trans rfl, (blk_cell KX0.out 1).trans rfl, (blk_cell KP0.out 0).trans rfl, (blk_cell KP0.out 1).trans rfl⟩ (fun hHeld => ?_)
 generalize w13.drew = w14 at KP0 KP1 KW KX0 KX1 KG SW Sx0 Sx1 Sg HB Z20 hHeld ⊢
 refine take_ (i := 0) (N := some 58) (v := ?_) (a' := ?_) (bv 5 1) rfl rfl (by kernel_rfl) (fun _ _ _ h => h) (Or.inl ⟨by rfl, ?_⟩) hHeld ?_ ?_
 rotate_left
 ·rintro w' ⟨s0, s1, s2, s3⟩
  go_simp
  with_reducible rfl
 rotate_left
 ·simp only [Act.put, sA, sZ, sS, i64_w, i32_w]
  rfl
 refine take_ (i := 1) (N := some 59) (v := ?_) (a' := ?_) (bv 5 3) rfl rfl (by kernel_rfl) (fun _ _ _ h => h) (Or.inl ⟨by rfl, ?_⟩) hHeld ?_ ?_
 rotate_left
 ·rintro w' ⟨s0, s1, s2, s3⟩
  go_simp
  with_reducible rfl
 rotate_left
 ·simp only [Act.put, sA, sZ, sS, i64_w, i32_w]
  rfl
 refine one_ (i := 2) (N := some 60) (bv 5 7) rfl rfl (by kernel_rfl) (by decide) (fun K hK => ?_)
 refine goes_ Try.func35 (by kernel_rfl) rfl #[.agg #[.int .i64 z0, .slice A0 l0.length c0]] (by rfl) rfl rfl (by simp only [List.map_toArray, List.map_cons, List.map_nil]; rfl) ?_
 refine (laws_toSum.calls k z0 _ _ l0 z0 y0 _ (Kd.C_below HA0.out HB.out) HC0.out FT0.out).mono ?_
 rintro e w15 ⟨v_, rfl, ho, hb⟩
 refine ⟨_, rfl, ?_⟩
 have Sq0_ := Aside0.mk (laws_FnExactAddSums.range ho HB.out.size)
 have B_ := Aside0.mk hb
 clear ho hb
 replace KP0 := Aside0.mk (blk_below KP0.out B_.out)
 replace KP1 := Aside0.mk (blk_below KP1.out B_.out)
 replace KW := Aside0.mk (blk_below KW.out B_.out)
 replace KX0 := Aside0.mk (blk_below KX0.out B_.out)
 replace KX1 := Aside0.mk (blk_below KX1.out B_.out)
 replace KG := Aside0.mk (blk_below KG.out B_.out)
 replace SW := Aside0.mk (Kd.V_below SW.out B_.out)
 replace Sx0 := Aside0.mk (Kd.S_below Sx0.out B_.out)
 replace Sx1 := Aside0.mk (Kd.S_below Sx1.out B_.out)
 replace Sg := Aside0.mk (Kd.S_below Sg.out B_.out)
 replace HB := Aside0.mk (below_step HB.out B_.out)
 have Z21 := Aside0.mk (B_.out).size
 clear B_
 have Sq0 := Sq0_
 clear Sq0_
 obtain ⟨Aq0, cq0, e_⟩ := Kd.S_slice Sq0.out
 subst e_
 refine hK.out _ _ ⟨(blk_cell KX0.out 0).trans rfl, (blk_cell KX0.out 1).trans rfl, (blk_cell KP0.out 0).trans rfl, (blk_cell KP0.out 1).trans rfl⟩ (fun hHeld => ?_)
 clear hK K
 refine norm_ (a' := ?_) ?_ ?_
 rotate_left
 ·show Act.put _ (some 60) _ = _
  simp only [Act.put, sA, sZ, sS, i64_w, i32_w]
  rfl
 refine one_ (i := 3) (N := some 61) (bv 5 15) rfl rfl (by kernel_rfl) (by decide) (fun K hK => ?_)
 refine goes_ Try.func37 (by kernel_rfl) rfl #[.agg #[.int .i64 z0, .slice Ax0 y0.length cx0], .agg #[.int .i64 z0, .slice Aq0 y0.length cq0]] (by rfl) rfl rfl (by simp only [List.map_toArray, List.map_cons, List.map_nil]; rfl) ?_
 refine (laws_eqSum.calls k z0 _ _ y0 z0 _ _ y0 true _ (Kd.S_reads' Sx0.out).2.2 (Kd.S_reads' Sx0.out).2.1 (Kd.S_reads' Sq0.out).2.2 (Kd.S_reads' Sq0.out).2.1 FQ0.out).mono ?_
 rintro e w16 ⟨rfl, hb⟩
 refine ⟨_, rfl, ?_⟩
 have B_ := Aside0.mk hb
 clear hb
 replace KP0 := Aside0.mk (blk_below KP0.out B_.out)
 replace KP1 := Aside0.mk (blk_below KP1.out B_.out)
 replace KW := Aside0.mk (blk_below KW.out B_.out)
 replace KX0 := Aside0.mk (blk_below KX0.out B_.out)
 replace KX1 := Aside0.mk (blk_below KX1.out B_.out)
 replace KG := Aside0.mk (blk_below KG.out B_.out)
 replace SW := Aside0.mk (Kd.V_below SW.out B_.out)
 replace Sx0 := Aside0.mk (Kd.S_below Sx0.out B_.out)
 replace Sx1 := Aside0.mk (Kd.S_below Sx1.out B_.out)
 replace Sg := Aside0.mk (Kd.S_below Sg.out B_.out)
 replace Sq0 := Aside0.mk (Kd.S_below Sq0.out B_.out)
 replace HB := Aside0.mk (below_step HB.out B_.out)
 have Z22 := Aside0.mk (B_.out).size
 clear B_
 clear Sq0
 refine hK.out _ _ ⟨(blk_cell KX0.out 0).trans rfl, (blk_cell KX0.out 1).trans rfl, (blk_cell KP0.out 0).trans rfl, (blk_cell KP0.out 1).trans rfl⟩ (fun hHeld => ?_)
 clear hK K
 refine norm_ (a' := ?_) ?_ ?_
 rotate_left
 ·show Act.put _ (some 61) _ = _
  simp only [Act.put, sA, sZ, sS, i64_w, i32_w]
  rfl
 refine pure_ (i := 4) (N := some 62) (v := ?_) (a' := ?_) (bv 5 31) rfl rfl (by kernel_rfl) (fun _ _ _ h => h) (Or.inl ⟨by rfl, ?_⟩) ?_ ?_
 rotate_left
 ·intro w'
  go_simp
  with_reducible rfl
 rotate_left
 ·simp only [Act.put, sA, sZ, sS, i64_w, i32_w]
  rfl
 refine done_ (by kernel_rfl) ?_
 have hz_P0_0_0 : w16.cell? ⟨w.heap.size, 0, none⟩ = some (.int .i64 z0) := (blk_cell (KP0.out) 0).trans rfl
 have hz_P0_1_1 : w16.cell? ⟨w.heap.size, 1, none⟩ = some (.slice A0 l0.length c0) := (blk_cell (KP0.out) 1).trans rfl
 have hz_P1_0_2 : w16.cell? ⟨(w.heap.size + 1), 0, none⟩ = some (.int .i64 z1) := (blk_cell (KP1.out) 0).trans rfl
 have hz_P1_1_3 : w16.cell? ⟨(w.heap.size + 1), 1, none⟩ = some (.slice A1 l1.length c1) := (blk_cell (KP1.out) 1).trans rfl
 have hz_W_0_4 : w16.cell? ⟨gbW, 0, none⟩ = some (.int .i64 g0) := (blk_cell (KW.out) 0).trans rfl
 have hz_W_1_5 : w16.cell? ⟨gbW, 1, none⟩ = some (.slice AW g1.length cW) := (blk_cell (KW.out) 1).trans rfl
 have hz_X0_0_6 : w16.cell? ⟨w7.heap.size, 0, none⟩ = some (.int .i64 z0) := (blk_cell (KX0.out) 0).trans rfl
 have hz_X0_1_7 : w16.cell? ⟨w7.heap.size, 1, none⟩ = some (.slice Ax0 y0.length cx0) := (blk_cell (KX0.out) 1).trans rfl
 have hz_X1_0_8 : w16.cell? ⟨w9.heap.size, 0, none⟩ = some (.int .i64 z1) := (blk_cell (KX1.out) 0).trans rfl
 have hz_X1_1_9 : w16.cell? ⟨w9.heap.size, 1, none⟩ = some (.slice Ax1 y1.length cx1) := (blk_cell (KX1.out) 1).trans rfl
 have hz_G_0_10 : w16.cell? ⟨w11.heap.size, 0, none⟩ = some (.int .i64 g0) := (blk_cell (KG.out) 0).trans rfl
 have hz_G_1_11 : w16.cell? ⟨w11.heap.size, 1, none⟩ = some (.slice Ag g1.length cg) := (blk_cell (KG.out) 1).trans rfl
 try go_wp2_with fail
 clear hz_P0_0_0 hz_P0_1_1 hz_P1_0_2 hz_P1_1_3 hz_W_0_4 hz_W_1_5 hz_X0_0_6 hz_X0_1_7 hz_X1_0_8 hz_X1_1_9 hz_G_0_10 hz_G_1_11
 have B_ : Aside0 (Below w16.heap.size w16 w16.drew) := ⟨below_drew1 (Below.refl _ _)⟩
 replace KP0 := Aside0.mk (blk_below KP0.out B_.out)
 replace KP1 := Aside0.mk (blk_below KP1.out B_.out)
 replace KW := Aside0.mk (blk_below KW.out B_.out)
 replace KX0 := Aside0.mk (blk_below KX0.out B_.out)
 replace KX1 := Aside0.mk (blk_below KX1.out B_.out)
 replace KG := Aside0.mk (blk_below KG.out B_.out)
 replace SW := Aside0.mk (Kd.V_below SW.out B_.out)
 replace Sx0 := Aside0.mk (Kd.S_below Sx0.out B_.out)
 replace Sx1 := Aside0.mk (Kd.S_below Sx1.out B_.out)
 replace Sg := Aside0.mk (Kd.S_below Sg.out B_.out)
 replace HB := Aside0.mk (below_step HB.out B_.out)
 have Z23 := Aside0.mk (B_.out).size
 clear B_
 refine start_ (n := 5) (S := fun w' => w'.cell? ⟨w9.heap.size, 0, none⟩ = some (.int .i64 z1) ∧ w'.cell? ⟨w9.heap.size, 1, none⟩ = some (.slice Ax1 y1.length cx1) ∧ w'.cell? ⟨(w.heap.size + 1), 0, none⟩ = some (.int .i64 z1) ∧ w'.cell? ⟨(w.heap.size + 1), 1, none⟩ = some (.slice A1 l1.length c1)) (ds := []) #[false, false, false, false, false] (by kernel_rfl) rfl rfl ⟨(blk_cell KX1.out 0).trans rfl, (blk_cell KX1.out 1).trans rfl, (blk_cell KP1.out 0).trans rfl, (blk_cell KP1.out 1).trans rfl⟩ (fun hHeld => ?_)
 generalize w16.drew = w17 at KP0 KP1 KW KX0 KX1 KG SW Sx0 Sx1 Sg HB Z23 hHeld ⊢
 refine take_ (i := 0) (N := some 63) (v := ?_) (a' := ?_) (bv 5 1) rfl rfl (by kernel_rfl) (fun _ _ _ h => h) (Or.inl ⟨by rfl, ?_⟩) hHeld ?_ ?_
 rotate_left
 ·rintro w' ⟨s0, s1, s2, s3⟩
  go_simp
  with_reducible rfl
 rotate_left
 ·simp only [Act.put, sA, sZ, sS, i64_w, i32_w]
  rfl
 refine take_ (i := 1) (N := some 64) (v := ?_) (a' := ?_) (bv 5 3) rfl rfl (by kernel_rfl) (fun _ _ _ h => h) (Or.inl ⟨by rfl, ?_⟩) hHeld ?_ ?_
 rotate_left
 ·rintro w' ⟨s0, s1, s2, s3⟩
  go_simp
  with_reducible rfl
 rotate_left
 ·simp only [Act.put, sA, sZ, sS, i64_w, i32_w]
  rfl
 refine one_ (i := 2) (N := some 65) (bv 5 7) rfl rfl (by kernel_rfl) (by decide) (fun K hK => ?_)
 refine goes_ Try.func35 (by kernel_rfl) rfl #[.agg #[.int .i64 z1, .slice A1 l1.length c1]] (by rfl) rfl rfl (by simp only [List.map_toArray, List.map_cons, List.map_nil]; rfl) ?_
 refine (laws_toSum.calls k z1 _ _ l1 z1 y1 _ (Kd.C_below HA1.out HB.out) HC1.out FT1.out).mono ?_
 rintro e w18 ⟨v_, rfl, ho, hb⟩
 refine ⟨_, rfl, ?_⟩
 have Sq1_ := Aside0.mk (laws_FnExactAddSums.range ho HB.out.size)
 have B_ := Aside0.mk hb
 clear ho hb
 replace KP0 := Aside0.mk (blk_below KP0.out B_.out)
 replace KP1 := Aside0.mk (blk_below KP1.out B_.out)
 replace KW := Aside0.mk (blk_below KW.out B_.out)
 replace KX0 := Aside0.mk (blk_below KX0.out B_.out)
 replace KX1 := Aside0.mk (blk_below KX1.out B_.out)
 replace KG := Aside0.mk (blk_below KG.out B_.out)
 replace SW := Aside0.mk (Kd.V_below SW.out B_.out)
 replace Sx0 := Aside0.mk (Kd.S_below Sx0.out B_.out)
 replace Sx1 := Aside0.mk (Kd.S_below Sx1.out B_.out)
 replace Sg := Aside0.mk (Kd.S_below Sg.out B_.out)
 replace HB := Aside0.mk (below_step HB.out B_.out)
 have Z24 := Aside0.mk (B_.out).size
 clear B_
 have Sq1 := Sq1_
 clear Sq1_
 obtain ⟨Aq1, cq1, e_⟩ := Kd.S_slice Sq1.out
 subst e_
 refine hK.out _ _ ⟨(blk_cell KX1.out 0).trans rfl, (blk_cell KX1.out 1).trans rfl, (blk_cell KP1.out 0).trans rfl, (blk_cell KP1.out 1).trans rfl⟩ (fun hHeld => ?_)
 clear hK K
 refine norm_ (a' := ?_) ?_ ?_
 rotate_left
 ·show Act.put _ (some 65) _ = _
  simp only [Act.put, sA, sZ, sS, i64_w, i32_w]
  rfl
 refine one_ (i := 3) (N := some 66) (bv 5 15) rfl rfl (by kernel_rfl) (by decide) (fun K hK => ?_)
 refine goes_ Try.func37 (by kernel_rfl) rfl #[.agg #[.int .i64 z1, .slice Ax1 y1.length cx1], .agg #[.int .i64 z1, .slice Aq1 y1.length cq1]] (by rfl) rfl rfl (by simp only [List.map_toArray, List.map_cons, List.map_nil]; rfl) ?_
 refine (laws_eqSum.calls k z1 _ _ y1 z1 _ _ y1 true _ (Kd.S_reads' Sx1.out).2.2 (Kd.S_reads' Sx1.out).2.1 (Kd.S_reads' Sq1.out).2.2 (Kd.S_reads' Sq1.out).2.1 FQ1.out).mono ?_
 rintro e w19 ⟨rfl, hb⟩
 refine ⟨_, rfl, ?_⟩
 have B_ := Aside0.mk hb
 clear hb
 replace KP0 := Aside0.mk (blk_below KP0.out B_.out)
 replace KP1 := Aside0.mk (blk_below KP1.out B_.out)
 replace KW := Aside0.mk (blk_below KW.out B_.out)
 replace KX0 := Aside0.mk (blk_below KX0.out B_.out)
 replace KX1 := Aside0.mk (blk_below KX1.out B_.out)
 replace KG := Aside0.mk (blk_below KG.out B_.out)
 replace SW := Aside0.mk (Kd.V_below SW.out B_.out)
 replace Sx0 := Aside0.mk (Kd.S_below Sx0.out B_.out)
 replace Sx1 := Aside0.mk (Kd.S_below Sx1.out B_.out)
 replace Sg := Aside0.mk (Kd.S_below Sg.out B_.out)
 replace Sq1 := Aside0.mk (Kd.S_below Sq1.out B_.out)
 replace HB := Aside0.mk (below_step HB.out B_.out)
 have Z25 := Aside0.mk (B_.out).size
 clear B_
 clear Sq1
 refine hK.out _ _ ⟨(blk_cell KX1.out 0).trans rfl, (blk_cell KX1.out 1).trans rfl, (blk_cell KP1.out 0).trans rfl, (blk_cell KP1.out 1).trans rfl⟩ (fun hHeld => ?_)
 clear hK K
 refine norm_ (a' := ?_) ?_ ?_
 rotate_left
 ·show Act.put _ (some 66) _ = _
  simp only [Act.put, sA, sZ, sS, i64_w, i32_w]
  rfl
 refine pure_ (i := 4) (N := some 67) (v := ?_) (a' := ?_) (bv 5 31) rfl rfl (by kernel_rfl) (fun _ _ _ h => h) (Or.inl ⟨by rfl, ?_⟩) ?_ ?_
 rotate_left
 ·intro w'
  go_simp
  with_reducible rfl
 rotate_left
 ·simp only [Act.put, sA, sZ, sS, i64_w, i32_w]
  rfl
 refine done_ (by kernel_rfl) ?_
 have hz_P0_0_0 : w19.cell? ⟨w.heap.size, 0, none⟩ = some (.int .i64 z0) := (blk_cell (KP0.out) 0).trans rfl
 have hz_P0_1_1 : w19.cell? ⟨w.heap.size, 1, none⟩ = some (.slice A0 l0.length c0) := (blk_cell (KP0.out) 1).trans rfl
 have hz_P1_0_2 : w19.cell? ⟨(w.heap.size + 1), 0, none⟩ = some (.int .i64 z1) := (blk_cell (KP1.out) 0).trans rfl
 have hz_P1_1_3 : w19.cell? ⟨(w.heap.size + 1), 1, none⟩ = some (.slice A1 l1.length c1) := (blk_cell (KP1.out) 1).trans rfl
 have hz_W_0_4 : w19.cell? ⟨gbW, 0, none⟩ = some (.int .i64 g0) := (blk_cell (KW.out) 0).trans rfl
 have hz_W_1_5 : w19.cell? ⟨gbW, 1, none⟩ = some (.slice AW g1.length cW) := (blk_cell (KW.out) 1).trans rfl
 have hz_X0_0_6 : w19.cell? ⟨w7.heap.size, 0, none⟩ = some (.int .i64 z0) := (blk_cell (KX0.out) 0).trans rfl
 have hz_X0_1_7 : w19.cell? ⟨w7.heap.size, 1, none⟩ = some (.slice Ax0 y0.length cx0) := (blk_cell (KX0.out) 1).trans rfl
 have hz_X1_0_8 : w19.cell? ⟨w9.heap.size, 0, none⟩ = some (.int .i64 z1) := (blk_cell (KX1.out) 0).trans rfl
 have hz_X1_1_9 : w19.cell? ⟨w9.heap.size, 1, none⟩ = some (.slice Ax1 y1.length cx1) := (blk_cell (KX1.out) 1).trans rfl
 have hz_G_0_10 : w19.cell? ⟨w11.heap.size, 0, none⟩ = some (.int .i64 g0) := (blk_cell (KG.out) 0).trans rfl
 have hz_G_1_11 : w19.cell? ⟨w11.heap.size, 1, none⟩ = some (.slice Ag g1.length cg) := (blk_cell (KG.out) 1).trans rfl
 go_wp2_with fail
 refine (laws_markSum.calls k (fun k_ => w6.heap.size ≤ k_ ∧ k_ < w7.heap.size) z0 _ y0 1 m10 q0 w _ HB.out Sx0.out FK0.out).mono ?_
 rintro e w20 ⟨rfl, ho, hb, hk⟩
 clear hz_P0_0_0 hz_P0_1_1 hz_P1_0_2 hz_P1_1_3 hz_W_0_4 hz_W_1_5 hz_X0_0_6 hz_X0_1_7 hz_X1_0_8 hz_X1_1_9 hz_G_0_10 hz_G_1_11
 have HBn := Aside0.mk hb
 have HK := Aside0.mk hk
 have SM := Aside0.mk ho
 clear ho hb hk
 replace KP0 := Aside0.mk (blk_kept KP0.out HK.out (fun hs_ => by obtain ⟨x1_, x2_⟩ := hs_; have := Z0.out; have := Z1.out; have := Z2.out; have := Z3.out; have := Z4.out; have := Z5.out; have := Z6.out; have := Z7.out; have := Z8.out; have := Z9.out; have := Z10.out; have := Z11.out; have := Z12.out; have := Z13.out; have := Z14.out; have := Z15.out; have := Z16.out; have := Z17.out; have := Z18.out; have := Z19.out; have := Z20.out; have := Z21.out; have := Z22.out; have := Z23.out; have := Z24.out; have := Z25.out; omega))
 replace KP1 := Aside0.mk (blk_kept KP1.out HK.out (fun hs_ => by obtain ⟨x1_, x2_⟩ := hs_; have := Z0.out; have := Z1.out; have := Z2.out; have := Z3.out; have := Z4.out; have := Z5.out; have := Z6.out; have := Z7.out; have := Z8.out; have := Z9.out; have := Z10.out; have := Z11.out; have := Z12.out; have := Z13.out; have := Z14.out; have := Z15.out; have := Z16.out; have := Z17.out; have := Z18.out; have := Z19.out; have := Z20.out; have := Z21.out; have := Z22.out; have := Z23.out; have := Z24.out; have := Z25.out; omega))
 replace KW := Aside0.mk (blk_kept KW.out HK.out (fun hs_ => by obtain ⟨x1_, x2_⟩ := hs_; have := Z0.out; have := Z1.out; have := Z2.out; have := Z3.out; have := Z4.out; have := Z5.out; have := Z6.out; have := Z7.out; have := Z8.out; have := Z9.out; have := Z10.out; have := Z11.out; have := Z12.out; have := Z13.out; have := Z14.out; have := Z15.out; have := Z16.out; have := Z17.out; have := Z18.out; have := Z19.out; have := Z20.out; have := Z21.out; have := Z22.out; have := Z23.out; have := Z24.out; have := Z25.out; omega))
 replace KX0 := Aside0.mk (blk_kept KX0.out HK.out (fun hs_ => by obtain ⟨x1_, x2_⟩ := hs_; have := Z0.out; have := Z1.out; have := Z2.out; have := Z3.out; have := Z4.out; have := Z5.out; have := Z6.out; have := Z7.out; have := Z8.out; have := Z9.out; have := Z10.out; have := Z11.out; have := Z12.out; have := Z13.out; have := Z14.out; have := Z15.out; have := Z16.out; have := Z17.out; have := Z18.out; have := Z19.out; have := Z20.out; have := Z21.out; have := Z22.out; have := Z23.out; have := Z24.out; have := Z25.out; omega))
 replace KX1 := Aside0.mk (blk_kept KX1.out HK.out (fun hs_ => by obtain ⟨x1_, x2_⟩ := hs_; have := Z0.out; have := Z1.out; have := Z2.out; have := Z3.out; have := Z4.out; have := Z5.out; have := Z6.out; have := Z7.out; have := Z8.out; have := Z9.out; have := Z10.out; have := Z11.out; have := Z12.out; have := Z13.out; have := Z14.out; have := Z15.out; have := Z16.out; have := Z17.out; have := Z18.out; have := Z19.out; have := Z20.out; have := Z21.out; have := Z22.out; have := Z23.out; have := Z24.out; have := Z25.out; omega))
 replace KG := Aside0.mk (blk_kept KG.out HK.out (fun hs_ => by obtain ⟨x1_, x2_⟩ := hs_; have := Z0.out; have := Z1.out; have := Z2.out; have := Z3.out; have := Z4.out; have := Z5.out; have := Z6.out; have := Z7.out; have := Z8.out; have := Z9.out; have := Z10.out; have := Z11.out; have := Z12.out; have := Z13.out; have := Z14.out; have := Z15.out; have := Z16.out; have := Z17.out; have := Z18.out; have := Z19.out; have := Z20.out; have := Z21.out; have := Z22.out; have := Z23.out; have := Z24.out; have := Z25.out; omega))
 replace SW := Aside0.mk (Kd.V_kept SW.out HK.out (fun k_ h1_ h2_ => by obtain ⟨x1_, x2_⟩ := h1_; obtain ⟨x3_, x4_⟩ := h2_; have := Z0.out; have := Z1.out; have := Z2.out; have := Z3.out; have := Z4.out; have := Z5.out; have := Z6.out; have := Z7.out; have := Z8.out; have := Z9.out; have := Z10.out; have := Z11.out; have := Z12.out; have := Z13.out; have := Z14.out; have := Z15.out; have := Z16.out; have := Z17.out; have := Z18.out; have := Z19.out; have := Z20.out; have := Z21.out; have := Z22.out; have := Z23.out; have := Z24.out; have := Z25.out; omega))
 replace Sx1 := Aside0.mk (Kd.S_kept Sx1.out HK.out (fun k_ h1_ h2_ => by obtain ⟨x1_, x2_⟩ := h1_; obtain ⟨x3_, x4_⟩ := h2_; have := Z0.out; have := Z1.out; have := Z2.out; have := Z3.out; have := Z4.out; have := Z5.out; have := Z6.out; have := Z7.out; have := Z8.out; have := Z9.out; have := Z10.out; have := Z11.out; have := Z12.out; have := Z13.out; have := Z14.out; have := Z15.out; have := Z16.out; have := Z17.out; have := Z18.out; have := Z19.out; have := Z20.out; have := Z21.out; have := Z22.out; have := Z23.out; have := Z24.out; have := Z25.out; omega))
 replace Sg := Aside0.mk (Kd.S_kept Sg.out HK.out (fun k_ h1_ h2_ => by obtain ⟨x1_, x2_⟩ := h1_; obtain ⟨x3_, x4_⟩ := h2_; have := Z0.out; have := Z1.out; have := Z2.out; have := Z3.out; have := Z4.out; have := Z5.out; have := Z6.out; have := Z7.out; have := Z8.out; have := Z9.out; have := Z10.out; have := Z11.out; have := Z12.out; have := Z13.out; have := Z14.out; have := Z15.out; have := Z16.out; have := Z17.out; have := Z18.out; have := Z19.out; have := Z20.out; have := Z21.out; have := Z22.out; have := Z23.out; have := Z24.out; have := Z25.out; omega))
 clear HB
 have HB := HBn
 clear HBn
 have Z26 := Aside0.mk HK.out.1
 clear HK Sx0
 clear SM
 have hz_P0_0_0 : w20.cell? ⟨w.heap.size, 0, none⟩ = some (.int .i64 z0) := (blk_cell (KP0.out) 0).trans rfl
 have hz_P0_1_1 : w20.cell? ⟨w.heap.size, 1, none⟩ = some (.slice A0 l0.length c0) := (blk_cell (KP0.out) 1).trans rfl
 have hz_P1_0_2 : w20.cell? ⟨(w.heap.size + 1), 0, none⟩ = some (.int .i64 z1) := (blk_cell (KP1.out) 0).trans rfl
 have hz_P1_1_3 : w20.cell? ⟨(w.heap.size + 1), 1, none⟩ = some (.slice A1 l1.length c1) := (blk_cell (KP1.out) 1).trans rfl
 have hz_W_0_4 : w20.cell? ⟨gbW, 0, none⟩ = some (.int .i64 g0) := (blk_cell (KW.out) 0).trans rfl
 have hz_W_1_5 : w20.cell? ⟨gbW, 1, none⟩ = some (.slice AW g1.length cW) := (blk_cell (KW.out) 1).trans rfl
 have hz_X0_0_6 : w20.cell? ⟨w7.heap.size, 0, none⟩ = some (.int .i64 z0) := (blk_cell (KX0.out) 0).trans rfl
 have hz_X0_1_7 : w20.cell? ⟨w7.heap.size, 1, none⟩ = some (.slice Ax0 y0.length cx0) := (blk_cell (KX0.out) 1).trans rfl
 have hz_X1_0_8 : w20.cell? ⟨w9.heap.size, 0, none⟩ = some (.int .i64 z1) := (blk_cell (KX1.out) 0).trans rfl
 have hz_X1_1_9 : w20.cell? ⟨w9.heap.size, 1, none⟩ = some (.slice Ax1 y1.length cx1) := (blk_cell (KX1.out) 1).trans rfl
 have hz_G_0_10 : w20.cell? ⟨w11.heap.size, 0, none⟩ = some (.int .i64 g0) := (blk_cell (KG.out) 0).trans rfl
 have hz_G_1_11 : w20.cell? ⟨w11.heap.size, 1, none⟩ = some (.slice Ag g1.length cg) := (blk_cell (KG.out) 1).trans rfl
 go_wp2_with fail
 refine (laws_markSum.calls k (fun k_ => w8.heap.size ≤ k_ ∧ k_ < w9.heap.size) z1 _ y1 m10 m11 q1 w _ HB.out Sx1.out FK1.out).mono ?_
 rintro e w21 ⟨rfl, ho, hb, hk⟩
 clear hz_P0_0_0 hz_P0_1_1 hz_P1_0_2 hz_P1_1_3 hz_W_0_4 hz_W_1_5 hz_X0_0_6 hz_X0_1_7 hz_X1_0_8 hz_X1_1_9 hz_G_0_10 hz_G_1_11
 have HBn := Aside0.mk hb
 have HK := Aside0.mk hk
 have SM := Aside0.mk ho
 clear ho hb hk
 replace KP0 := Aside0.mk (blk_kept KP0.out HK.out (fun hs_ => by obtain ⟨x1_, x2_⟩ := hs_; have := Z0.out; have := Z1.out; have := Z2.out; have := Z3.out; have := Z4.out; have := Z5.out; have := Z6.out; have := Z7.out; have := Z8.out; have := Z9.out; have := Z10.out; have := Z11.out; have := Z12.out; have := Z13.out; have := Z14.out; have := Z15.out; have := Z16.out; have := Z17.out; have := Z18.out; have := Z19.out; have := Z20.out; have := Z21.out; have := Z22.out; have := Z23.out; have := Z24.out; have := Z25.out; have := Z26.out; omega))
 replace KP1 := Aside0.mk (blk_kept KP1.out HK.out (fun hs_ => by obtain ⟨x1_, x2_⟩ := hs_; have := Z0.out; have := Z1.out; have := Z2.out; have := Z3.out; have := Z4.out; have := Z5.out; have := Z6.out; have := Z7.out; have := Z8.out; have := Z9.out; have := Z10.out; have := Z11.out; have := Z12.out; have := Z13.out; have := Z14.out; have := Z15.out; have := Z16.out; have := Z17.out; have := Z18.out; have := Z19.out; have := Z20.out; have := Z21.out; have := Z22.out; have := Z23.out; have := Z24.out; have := Z25.out; have := Z26.out; omega))
 replace KW := Aside0.mk (blk_kept KW.out HK.out (fun hs_ => by obtain ⟨x1_, x2_⟩ := hs_; have := Z0.out; have := Z1.out; have := Z2.out; have := Z3.out; have := Z4.out; have := Z5.out; have := Z6.out; have := Z7.out; have := Z8.out; have := Z9.out; have := Z10.out; have := Z11.out; have := Z12.out; have := Z13.out; have := Z14.out; have := Z15.out; have := Z16.out; have := Z17.out; have := Z18.out; have := Z19.out; have := Z20.out; have := Z21.out; have := Z22.out; have := Z23.out; have := Z24.out; have := Z25.out; have := Z26.out; omega))
 replace KX0 := Aside0.mk (blk_kept KX0.out HK.out (fun hs_ => by obtain ⟨x1_, x2_⟩ := hs_; have := Z0.out; have := Z1.out; have := Z2.out; have := Z3.out; have := Z4.out; have := Z5.out; have := Z6.out; have := Z7.out; have := Z8.out; have := Z9.out; have := Z10.out; have := Z11.out; have := Z12.out; have := Z13.out; have := Z14.out; have := Z15.out; have := Z16.out; have := Z17.out; have := Z18.out; have := Z19.out; have := Z20.out; have := Z21.out; have := Z22.out; have := Z23.out; have := Z24.out; have := Z25.out; have := Z26.out; omega))
 replace KX1 := Aside0.mk (blk_kept KX1.out HK.out (fun hs_ => by obtain ⟨x1_, x2_⟩ := hs_; have := Z0.out; have := Z1.out; have := Z2.out; have := Z3.out; have := Z4.out; have := Z5.out; have := Z6.out; have := Z7.out; have := Z8.out; have := Z9.out; have := Z10.out; have := Z11.out; have := Z12.out; have := Z13.out; have := Z14.out; have := Z15.out; have := Z16.out; have := Z17.out; have := Z18.out; have := Z19.out; have := Z20.out; have := Z21.out; have := Z22.out; have := Z23.out; have := Z24.out; have := Z25.out; have := Z26.out; omega))
 replace KG := Aside0.mk (blk_kept KG.out HK.out (fun hs_ => by obtain ⟨x1_, x2_⟩ := hs_; have := Z0.out; have := Z1.out; have := Z2.out; have := Z3.out; have := Z4.out; have := Z5.out; have := Z6.out; have := Z7.out; have := Z8.out; have := Z9.out; have := Z10.out; have := Z11.out; have := Z12.out; have := Z13.out; have := Z14.out; have := Z15.out; have := Z16.out; have := Z17.out; have := Z18.out; have := Z19.out; have := Z20.out; have := Z21.out; have := Z22.out; have := Z23.out; have := Z24.out; have := Z25.out; have := Z26.out; omega))
 replace SW := Aside0.mk (Kd.V_kept SW.out HK.out (fun k_ h1_ h2_ => by obtain ⟨x1_, x2_⟩ := h1_; obtain ⟨x3_, x4_⟩ := h2_; have := Z0.out; have := Z1.out; have := Z2.out; have := Z3.out; have := Z4.out; have := Z5.out; have := Z6.out; have := Z7.out; have := Z8.out; have := Z9.out; have := Z10.out; have := Z11.out; have := Z12.out; have := Z13.out; have := Z14.out; have := Z15.out; have := Z16.out; have := Z17.out; have := Z18.out; have := Z19.out; have := Z20.out; have := Z21.out; have := Z22.out; have := Z23.out; have := Z24.out; have := Z25.out; have := Z26.out; omega))
 replace Sg := Aside0.mk (Kd.S_kept Sg.out HK.out (fun k_ h1_ h2_ => by obtain ⟨x1_, x2_⟩ := h1_; obtain ⟨x3_, x4_⟩ := h2_; have := Z0.out; have := Z1.out; have := Z2.out; have := Z3.out; have := Z4.out; have := Z5.out; have := Z6.out; have := Z7.out; have := Z8.out; have := Z9.out; have := Z10.out; have := Z11.out; have := Z12.out; have := Z13.out; have := Z14.out; have := Z15.out; have := Z16.out; have := Z17.out; have := Z18.out; have := Z19.out; have := Z20.out; have := Z21.out; have := Z22.out; have := Z23.out; have := Z24.out; have := Z25.out; have := Z26.out; omega))
 clear HB
 have HB := HBn
 clear HBn
 have Z27 := Aside0.mk HK.out.1
 clear HK Sx1
 clear SM
 have hz_P0_0_0 : w21.cell? ⟨w.heap.size, 0, none⟩ = some (.int .i64 z0) := (blk_cell (KP0.out) 0).trans rfl
 have hz_P0_1_1 : w21.cell? ⟨w.heap.size, 1, none⟩ = some (.slice A0 l0.length c0) := (blk_cell (KP0.out) 1).trans rfl
 have hz_P1_0_2 : w21.cell? ⟨(w.heap.size + 1), 0, none⟩ = some (.int .i64 z1) := (blk_cell (KP1.out) 0).trans rfl
 have hz_P1_1_3 : w21.cell? ⟨(w.heap.size + 1), 1, none⟩ = some (.slice A1 l1.length c1) := (blk_cell (KP1.out) 1).trans rfl
 have hz_W_0_4 : w21.cell? ⟨gbW, 0, none⟩ = some (.int .i64 g0) := (blk_cell (KW.out) 0).trans rfl
 have hz_W_1_5 : w21.cell? ⟨gbW, 1, none⟩ = some (.slice AW g1.length cW) := (blk_cell (KW.out) 1).trans rfl
 have hz_X0_0_6 : w21.cell? ⟨w7.heap.size, 0, none⟩ = some (.int .i64 z0) := (blk_cell (KX0.out) 0).trans rfl
 have hz_X0_1_7 : w21.cell? ⟨w7.heap.size, 1, none⟩ = some (.slice Ax0 y0.length cx0) := (blk_cell (KX0.out) 1).trans rfl
 have hz_X1_0_8 : w21.cell? ⟨w9.heap.size, 0, none⟩ = some (.int .i64 z1) := (blk_cell (KX1.out) 0).trans rfl
 have hz_X1_1_9 : w21.cell? ⟨w9.heap.size, 1, none⟩ = some (.slice Ax1 y1.length cx1) := (blk_cell (KX1.out) 1).trans rfl
 have hz_G_0_10 : w21.cell? ⟨w11.heap.size, 0, none⟩ = some (.int .i64 g0) := (blk_cell (KG.out) 0).trans rfl
 have hz_G_1_11 : w21.cell? ⟨w11.heap.size, 1, none⟩ = some (.slice Ag g1.length cg) := (blk_cell (KG.out) 1).trans rfl
 go_wp2_with fail
 refine (laws_eqSum.calls k g0 _ _ g1 g0 _ _ g1 true _ (Kd.S_reads' Sg.out).2.2 (Kd.S_reads' Sg.out).2.1 (Kd.V_reads' SW.out).2.2 (Kd.V_reads' SW.out).2.1 FE.out).mono ?_
 rintro e w22 ⟨rfl, hb⟩
 clear hz_P0_0_0 hz_P0_1_1 hz_P1_0_2 hz_P1_1_3 hz_W_0_4 hz_W_1_5 hz_X0_0_6 hz_X0_1_7 hz_X1_0_8 hz_X1_1_9 hz_G_0_10 hz_G_1_11
 have B_ := Aside0.mk hb
 clear hb
 replace KP0 := Aside0.mk (blk_below KP0.out B_.out)
 replace KP1 := Aside0.mk (blk_below KP1.out B_.out)
 replace KW := Aside0.mk (blk_below KW.out B_.out)
 replace KX0 := Aside0.mk (blk_below KX0.out B_.out)
 replace KX1 := Aside0.mk (blk_below KX1.out B_.out)
 replace KG := Aside0.mk (blk_below KG.out B_.out)
 replace SW := Aside0.mk (Kd.V_below SW.out B_.out)
 replace Sg := Aside0.mk (Kd.S_below Sg.out B_.out)
 replace HB := Aside0.mk (below_step HB.out B_.out)
 have Z28 := Aside0.mk (B_.out).size
 clear B_
 have hz_P0_0_0 : w22.cell? ⟨w.heap.size, 0, none⟩ = some (.int .i64 z0) := (blk_cell (KP0.out) 0).trans rfl
 have hz_P0_1_1 : w22.cell? ⟨w.heap.size, 1, none⟩ = some (.slice A0 l0.length c0) := (blk_cell (KP0.out) 1).trans rfl
 have hz_P1_0_2 : w22.cell? ⟨(w.heap.size + 1), 0, none⟩ = some (.int .i64 z1) := (blk_cell (KP1.out) 0).trans rfl
 have hz_P1_1_3 : w22.cell? ⟨(w.heap.size + 1), 1, none⟩ = some (.slice A1 l1.length c1) := (blk_cell (KP1.out) 1).trans rfl
 have hz_W_0_4 : w22.cell? ⟨gbW, 0, none⟩ = some (.int .i64 g0) := (blk_cell (KW.out) 0).trans rfl
 have hz_W_1_5 : w22.cell? ⟨gbW, 1, none⟩ = some (.slice AW g1.length cW) := (blk_cell (KW.out) 1).trans rfl
 have hz_X0_0_6 : w22.cell? ⟨w7.heap.size, 0, none⟩ = some (.int .i64 z0) := (blk_cell (KX0.out) 0).trans rfl
 have hz_X0_1_7 : w22.cell? ⟨w7.heap.size, 1, none⟩ = some (.slice Ax0 y0.length cx0) := (blk_cell (KX0.out) 1).trans rfl
 have hz_X1_0_8 : w22.cell? ⟨w9.heap.size, 0, none⟩ = some (.int .i64 z1) := (blk_cell (KX1.out) 0).trans rfl
 have hz_X1_1_9 : w22.cell? ⟨w9.heap.size, 1, none⟩ = some (.slice Ax1 y1.length cx1) := (blk_cell (KX1.out) 1).trans rfl
 have hz_G_0_10 : w22.cell? ⟨w11.heap.size, 0, none⟩ = some (.int .i64 g0) := (blk_cell (KG.out) 0).trans rfl
 have hz_G_1_11 : w22.cell? ⟨w11.heap.size, 1, none⟩ = some (.slice Ag g1.length cg) := (blk_cell (KG.out) 1).trans rfl
 go_wp2_with fail
 refine (laws_markSum.calls k (fun k_ => w10.heap.size ≤ k_ ∧ k_ < w11.heap.size) g0 _ g1 1 m p1 w _ HB.out Sg.out FM.out).mono ?_
 rintro e w23 ⟨rfl, ho, hb, hk⟩
 clear hz_P0_0_0 hz_P0_1_1 hz_P1_0_2 hz_P1_1_3 hz_W_0_4 hz_W_1_5 hz_X0_0_6 hz_X0_1_7 hz_X1_0_8 hz_X1_1_9 hz_G_0_10 hz_G_1_11
 have HBn := Aside0.mk hb
 have HK := Aside0.mk hk
 have SM := Aside0.mk ho
 clear ho hb hk
 replace KP0 := Aside0.mk (blk_kept KP0.out HK.out (fun hs_ => by obtain ⟨x1_, x2_⟩ := hs_; have := Z0.out; have := Z1.out; have := Z2.out; have := Z3.out; have := Z4.out; have := Z5.out; have := Z6.out; have := Z7.out; have := Z8.out; have := Z9.out; have := Z10.out; have := Z11.out; have := Z12.out; have := Z13.out; have := Z14.out; have := Z15.out; have := Z16.out; have := Z17.out; have := Z18.out; have := Z19.out; have := Z20.out; have := Z21.out; have := Z22.out; have := Z23.out; have := Z24.out; have := Z25.out; have := Z26.out; have := Z27.out; have := Z28.out; omega))
 replace KP1 := Aside0.mk (blk_kept KP1.out HK.out (fun hs_ => by obtain ⟨x1_, x2_⟩ := hs_; have := Z0.out; have := Z1.out; have := Z2.out; have := Z3.out; have := Z4.out; have := Z5.out; have := Z6.out; have := Z7.out; have := Z8.out; have := Z9.out; have := Z10.out; have := Z11.out; have := Z12.out; have := Z13.out; have := Z14.out; have := Z15.out; have := Z16.out; have := Z17.out; have := Z18.out; have := Z19.out; have := Z20.out; have := Z21.out; have := Z22.out; have := Z23.out; have := Z24.out; have := Z25.out; have := Z26.out; have := Z27.out; have := Z28.out; omega))
 replace KW := Aside0.mk (blk_kept KW.out HK.out (fun hs_ => by obtain ⟨x1_, x2_⟩ := hs_; have := Z0.out; have := Z1.out; have := Z2.out; have := Z3.out; have := Z4.out; have := Z5.out; have := Z6.out; have := Z7.out; have := Z8.out; have := Z9.out; have := Z10.out; have := Z11.out; have := Z12.out; have := Z13.out; have := Z14.out; have := Z15.out; have := Z16.out; have := Z17.out; have := Z18.out; have := Z19.out; have := Z20.out; have := Z21.out; have := Z22.out; have := Z23.out; have := Z24.out; have := Z25.out; have := Z26.out; have := Z27.out; have := Z28.out; omega))
 replace KX0 := Aside0.mk (blk_kept KX0.out HK.out (fun hs_ => by obtain ⟨x1_, x2_⟩ := hs_; have := Z0.out; have := Z1.out; have := Z2.out; have := Z3.out; have := Z4.out; have := Z5.out; have := Z6.out; have := Z7.out; have := Z8.out; have := Z9.out; have := Z10.out; have := Z11.out; have := Z12.out; have := Z13.out; have := Z14.out; have := Z15.out; have := Z16.out; have := Z17.out; have := Z18.out; have := Z19.out; have := Z20.out; have := Z21.out; have := Z22.out; have := Z23.out; have := Z24.out; have := Z25.out; have := Z26.out; have := Z27.out; have := Z28.out; omega))
 replace KX1 := Aside0.mk (blk_kept KX1.out HK.out (fun hs_ => by obtain ⟨x1_, x2_⟩ := hs_; have := Z0.out; have := Z1.out; have := Z2.out; have := Z3.out; have := Z4.out; have := Z5.out; have := Z6.out; have := Z7.out; have := Z8.out; have := Z9.out; have := Z10.out; have := Z11.out; have := Z12.out; have := Z13.out; have := Z14.out; have := Z15.out; have := Z16.out; have := Z17.out; have := Z18.out; have := Z19.out; have := Z20.out; have := Z21.out; have := Z22.out; have := Z23.out; have := Z24.out; have := Z25.out; have := Z26.out; have := Z27.out; have := Z28.out; omega))
 replace KG := Aside0.mk (blk_kept KG.out HK.out (fun hs_ => by obtain ⟨x1_, x2_⟩ := hs_; have := Z0.out; have := Z1.out; have := Z2.out; have := Z3.out; have := Z4.out; have := Z5.out; have := Z6.out; have := Z7.out; have := Z8.out; have := Z9.out; have := Z10.out; have := Z11.out; have := Z12.out; have := Z13.out; have := Z14.out; have := Z15.out; have := Z16.out; have := Z17.out; have := Z18.out; have := Z19.out; have := Z20.out; have := Z21.out; have := Z22.out; have := Z23.out; have := Z24.out; have := Z25.out; have := Z26.out; have := Z27.out; have := Z28.out; omega))
 replace SW := Aside0.mk (Kd.V_kept SW.out HK.out (fun k_ h1_ h2_ => by obtain ⟨x1_, x2_⟩ := h1_; obtain ⟨x3_, x4_⟩ := h2_; have := Z0.out; have := Z1.out; have := Z2.out; have := Z3.out; have := Z4.out; have := Z5.out; have := Z6.out; have := Z7.out; have := Z8.out; have := Z9.out; have := Z10.out; have := Z11.out; have := Z12.out; have := Z13.out; have := Z14.out; have := Z15.out; have := Z16.out; have := Z17.out; have := Z18.out; have := Z19.out; have := Z20.out; have := Z21.out; have := Z22.out; have := Z23.out; have := Z24.out; have := Z25.out; have := Z26.out; have := Z27.out; have := Z28.out; omega))
 clear HB
 have HB := HBn
 clear HBn
 have Z29 := Aside0.mk HK.out.1
 clear HK Sg
 have SM1 := SM
 clear SM
 have hz_P0_0_0 : w23.cell? ⟨w.heap.size, 0, none⟩ = some (.int .i64 z0) := (blk_cell (KP0.out) 0).trans rfl
 have hz_P0_1_1 : w23.cell? ⟨w.heap.size, 1, none⟩ = some (.slice A0 l0.length c0) := (blk_cell (KP0.out) 1).trans rfl
 have hz_P1_0_2 : w23.cell? ⟨(w.heap.size + 1), 0, none⟩ = some (.int .i64 z1) := (blk_cell (KP1.out) 0).trans rfl
 have hz_P1_1_3 : w23.cell? ⟨(w.heap.size + 1), 1, none⟩ = some (.slice A1 l1.length c1) := (blk_cell (KP1.out) 1).trans rfl
 have hz_W_0_4 : w23.cell? ⟨gbW, 0, none⟩ = some (.int .i64 g0) := (blk_cell (KW.out) 0).trans rfl
 have hz_W_1_5 : w23.cell? ⟨gbW, 1, none⟩ = some (.slice AW g1.length cW) := (blk_cell (KW.out) 1).trans rfl
 have hz_X0_0_6 : w23.cell? ⟨w7.heap.size, 0, none⟩ = some (.int .i64 z0) := (blk_cell (KX0.out) 0).trans rfl
 have hz_X0_1_7 : w23.cell? ⟨w7.heap.size, 1, none⟩ = some (.slice Ax0 y0.length cx0) := (blk_cell (KX0.out) 1).trans rfl
 have hz_X1_0_8 : w23.cell? ⟨w9.heap.size, 0, none⟩ = some (.int .i64 z1) := (blk_cell (KX1.out) 0).trans rfl
 have hz_X1_1_9 : w23.cell? ⟨w9.heap.size, 1, none⟩ = some (.slice Ax1 y1.length cx1) := (blk_cell (KX1.out) 1).trans rfl
 have hz_G_0_10 : w23.cell? ⟨w11.heap.size, 0, none⟩ = some (.int .i64 g0) := (blk_cell (KG.out) 0).trans rfl
 have hz_G_1_11 : w23.cell? ⟨w11.heap.size, 1, none⟩ = some (.slice Ag g1.length cg) := (blk_cell (KG.out) 1).trans rfl
 go_wp2_with fail
 have e_ := (Kd.S_reads' SM1.out).1
 have hh_ := laws_heldSum.calls k g0 _ _ p1 1 m _ (Kd.S_reads' SM1.out).2.2 (by rw [← e_]; exact (Kd.S_reads' SM1.out).2.1) FH.out
 rw [← e_] at hh_
 clear e_
 refine hh_.mono ?_
 clear hh_
 rintro e w24 ⟨rfl, hb⟩
 clear hz_P0_0_0 hz_P0_1_1 hz_P1_0_2 hz_P1_1_3 hz_W_0_4 hz_W_1_5 hz_X0_0_6 hz_X0_1_7 hz_X1_0_8 hz_X1_1_9 hz_G_0_10 hz_G_1_11
 have B_ := Aside0.mk hb
 clear hb
 replace KP0 := Aside0.mk (blk_below KP0.out B_.out)
 replace KP1 := Aside0.mk (blk_below KP1.out B_.out)
 replace KW := Aside0.mk (blk_below KW.out B_.out)
 replace KX0 := Aside0.mk (blk_below KX0.out B_.out)
 replace KX1 := Aside0.mk (blk_below KX1.out B_.out)
 replace KG := Aside0.mk (blk_below KG.out B_.out)
 replace SW := Aside0.mk (Kd.V_below SW.out B_.out)
 replace SM1 := Aside0.mk (Kd.S_below SM1.out B_.out)
 replace HB := Aside0.mk (below_step HB.out B_.out)
 have Z30 := Aside0.mk (B_.out).size
 clear B_
 have hz_P0_0_0 : w24.cell? ⟨w.heap.size, 0, none⟩ = some (.int .i64 z0) := (blk_cell (KP0.out) 0).trans rfl
 have hz_P0_1_1 : w24.cell? ⟨w.heap.size, 1, none⟩ = some (.slice A0 l0.length c0) := (blk_cell (KP0.out) 1).trans rfl
 have hz_P1_0_2 : w24.cell? ⟨(w.heap.size + 1), 0, none⟩ = some (.int .i64 z1) := (blk_cell (KP1.out) 0).trans rfl
 have hz_P1_1_3 : w24.cell? ⟨(w.heap.size + 1), 1, none⟩ = some (.slice A1 l1.length c1) := (blk_cell (KP1.out) 1).trans rfl
 have hz_W_0_4 : w24.cell? ⟨gbW, 0, none⟩ = some (.int .i64 g0) := (blk_cell (KW.out) 0).trans rfl
 have hz_W_1_5 : w24.cell? ⟨gbW, 1, none⟩ = some (.slice AW g1.length cW) := (blk_cell (KW.out) 1).trans rfl
 have hz_X0_0_6 : w24.cell? ⟨w7.heap.size, 0, none⟩ = some (.int .i64 z0) := (blk_cell (KX0.out) 0).trans rfl
 have hz_X0_1_7 : w24.cell? ⟨w7.heap.size, 1, none⟩ = some (.slice Ax0 y0.length cx0) := (blk_cell (KX0.out) 1).trans rfl
 have hz_X1_0_8 : w24.cell? ⟨w9.heap.size, 0, none⟩ = some (.int .i64 z1) := (blk_cell (KX1.out) 0).trans rfl
 have hz_X1_1_9 : w24.cell? ⟨w9.heap.size, 1, none⟩ = some (.slice Ax1 y1.length cx1) := (blk_cell (KX1.out) 1).trans rfl
 have hz_G_0_10 : w24.cell? ⟨w11.heap.size, 0, none⟩ = some (.int .i64 g0) := (blk_cell (KG.out) 0).trans rfl
 have hz_G_1_11 : w24.cell? ⟨w11.heap.size, 1, none⟩ = some (.slice Ag g1.length cg) := (blk_cell (KG.out) 1).trans rfl
 try go_wp2_with fail
 clear hz_P0_0_0 hz_P0_1_1 hz_P1_0_2 hz_P1_1_3 hz_W_0_4 hz_W_1_5 hz_X0_0_6 hz_X0_1_7 hz_X1_0_8 hz_X1_1_9 hz_G_0_10 hz_G_1_11
 have B_ : Aside0 (Below w24.heap.size w24 w24.drew) := ⟨below_drew1 (Below.refl _ _)⟩
 replace KP0 := Aside0.mk (blk_below KP0.out B_.out)
 replace KP1 := Aside0.mk (blk_below KP1.out B_.out)
 replace KW := Aside0.mk (blk_below KW.out B_.out)
 replace KX0 := Aside0.mk (blk_below KX0.out B_.out)
 replace KX1 := Aside0.mk (blk_below KX1.out B_.out)
 replace KG := Aside0.mk (blk_below KG.out B_.out)
 replace SW := Aside0.mk (Kd.V_below SW.out B_.out)
 replace SM1 := Aside0.mk (Kd.S_below SM1.out B_.out)
 replace HB := Aside0.mk (below_step HB.out B_.out)
 have Z31 := Aside0.mk (B_.out).size
 clear B_
 refine start_ (n := 12) (S := fun w' => w'.cell? ⟨w.heap.size, 0, none⟩ = some (.int .i64 z0) ∧ w'.cell? ⟨w.heap.size, 1, none⟩ = some (.slice A0 l0.length c0) ∧ w'.cell? ⟨(w.heap.size + 1), 0, none⟩ = some (.int .i64 z1) ∧ w'.cell? ⟨(w.heap.size + 1), 1, none⟩ = some (.slice A1 l1.length c1)) (ds := [10]) #[false, false, false, false, false, false, false, false, false, false, false, false] (by kernel_rfl) rfl rfl ⟨(blk_cell KP0.out 0).trans rfl, (blk_cell KP0.out 1).trans rfl, (blk_cell KP1.out 0).trans rfl, (blk_cell KP1.out 1).trans rfl⟩ (fun hHeld => ?_)
 refine with_tabW laws_FnExactAddSums.tab31 laws_FnExactAddSums.bits31 (fun HT_ HW_ => ?_)
 generalize w24.drew = w25 at KP0 KP1 KW KX0 KX1 KG SW SM1 HB Z31 hHeld ⊢
 have HD0 := Aside0.mk (Below.refl w25.heap.size w25)
 refine pure_ (i := 4) (N := some 103) (v := ?_) (a' := ?_) (bv 12 16) rfl rfl (any_of HT_.out (by kernel_rfl)) (fun _ _ _ h => h) (Or.inl ⟨by rfl, ?_⟩) ?_ ?_
 rotate_left
 ·intro w'
  go_simp
  with_reducible rfl
 rotate_left
 ·simp only [Act.put, sA, sZ, sS, i64_w, i32_w]
  rfl
 refine take_ (i := 0) (N := some 99) (v := ?_) (a' := ?_) (bv 12 17) rfl rfl (take_ofW HT_.out HW_.out (by kernel_rfl)) (fun _ _ _ h => h) (Or.inl ⟨by rfl, ?_⟩) hHeld ?_ ?_
 rotate_left
 ·rintro w' ⟨s0, s1, s2, s3⟩
  go_simp
  with_reducible rfl
 rotate_left
 ·simp only [Act.put, sA, sZ, sS, i64_w, i32_w]
  rfl
 refine take_ (i := 2) (N := some 101) (v := ?_) (a' := ?_) (bv 12 21) rfl rfl (take_ofW HT_.out HW_.out (by kernel_rfl)) (fun _ _ _ h => h) (Or.inl ⟨by rfl, ?_⟩) hHeld ?_ ?_
 rotate_left
 ·rintro w' ⟨s0, s1, s2, s3⟩
  go_simp
  with_reducible rfl
 rotate_left
 ·simp only [Act.put, sA, sZ, sS, i64_w, i32_w]
  rfl
 refine join_ (σ := Nat × Value × Value × Value) 2 (bv 12 1023) (fun s => [(100, s.2.1), (102, s.2.2.1), (104, .tuple #[.agg #[.int .i64 g0, s.2.2.2], .int .i64 c]), (98, .tuple #[.agg #[.int .i64 g0, s.2.2.2], .int .i64 c]), (105, .agg #[.int .i64 g0, s.2.2.2]), (106, .int .i64 c), (17, .pointer (some ⟨s.1, 0, none⟩))]) (fun s w' => w'.heap[s.1]? = some (.cells #[.int .i64 0, .slice none 0 0] 49 (0, 0)) ∧ w25.heap.size ≤ s.1 ∧ Kd.V k89 89 w' w25.heap.size (fun k_ => (w25.heap.size ≤ k_ ∧ k_ < w'.heap.size) ∧ k_ ≠ s.1) s.2.2.2 g1 ∧ Below w25.heap.size w25 w') ?_ ?_
 rotate_left
 ·intro hCont
  refine two_ (i := 1) (j := 9) (Ni := some 100) (Nj := some 17) (bv 12 23) (bv 12 533) rfl rfl rfl rfl (two_of HT_.out (by kernel_rfl)) (by decide) (by decide) (fun K hK => ?_) (fun K hK => ?_)
  ·skip
   refine goes_ Try.func35 (by kernel_rfl) rfl #[.agg #[.int .i64 z0, .slice A0 l0.length c0]] (by rfl) rfl rfl (by simp only [List.map_toArray, List.map_cons, List.map_nil]; rfl) ?_
   refine (laws_toSum.calls k z0 _ _ l0 z0 y0 _ (Kd.C_below HA0.out (below_step HB.out HD0.out)) HC0.out FT0.out).mono ?_
   rintro e wf1 ⟨v_, rfl, ho, hb⟩
   refine ⟨_, rfl, ?_⟩
   have HD1 := Aside0.mk (below_step HD0.out hb)
   have HZ0 := Aside0.mk hb.size
   have Sf0 := Aside0.mk (laws_FnExactAddSums.range ho HD0.out.size)
   clear ho hb
   obtain ⟨Af0, cf0, e_⟩ := Kd.S_slice Sf0.out
   subst e_
   refine hK.out _ _ ⟨(blk_cell (blk_below KP0.out HD1.out) 0).trans rfl, (blk_cell (blk_below KP0.out HD1.out) 1).trans rfl, (blk_cell (blk_below KP1.out HD1.out) 0).trans rfl, (blk_cell (blk_below KP1.out HD1.out) 1).trans rfl⟩ (fun hHeld => ?_)
   clear hK K
   refine norm_ (a' := ?_) ?_ ?_
   rotate_left
   ·show Act.put _ (some 100) _ = _
    simp only [Act.put, sA, sZ, sS, i64_w, i32_w]
    rfl
   refine two_ (i := 3) (j := 9) (Ni := some 102) (Nj := some 17) (bv 12 31) (bv 12 535) rfl rfl rfl rfl (two_of HT_.out (by kernel_rfl)) (by decide) (by decide) (fun K hK => ?_) (fun K hK => ?_)
   ·skip
    refine goes_ Try.func35 (by kernel_rfl) rfl #[.agg #[.int .i64 z1, .slice A1 l1.length c1]] (by rfl) rfl rfl (by simp only [List.map_toArray, List.map_cons, List.map_nil]; rfl) ?_
    refine (laws_toSum.calls k z1 _ _ l1 z1 y1 _ (Kd.C_below HA1.out (below_step HB.out HD1.out)) HC1.out FT1.out).mono ?_
    rintro e wf2 ⟨v_, rfl, ho, hb⟩
    refine ⟨_, rfl, ?_⟩
    replace Sf0 := Aside0.mk (Kd.S_below Sf0.out hb)
    have HD2 := Aside0.mk (below_step HD1.out hb)
    have HZ1 := Aside0.mk hb.size
    have Sf1 := Aside0.mk (laws_FnExactAddSums.range ho HD1.out.size)
    clear ho hb
    obtain ⟨Af1, cf1, e_⟩ := Kd.S_slice Sf1.out
    subst e_
    refine hK.out _ _ ⟨(blk_cell (blk_below KP0.out HD2.out) 0).trans rfl, (blk_cell (blk_below KP0.out HD2.out) 1).trans rfl, (blk_cell (blk_below KP1.out HD2.out) 0).trans rfl, (blk_cell (blk_below KP1.out HD2.out) 1).trans rfl⟩ (fun hHeld => ?_)
    clear hK K
    refine norm_ (a' := ?_) ?_ ?_
    rotate_left
    ·show Act.put _ (some 102) _ = _
     simp only [Act.put, sA, sZ, sS, i64_w, i32_w]
     rfl
    refine two_ (i := 5) (j := 9) (Ni := some 104) (Nj := some 17) (bv 12 63) (bv 12 543) rfl rfl rfl rfl (two_of HT_.out (by kernel_rfl)) (by decide) (by decide) (fun K hK => ?_) (fun K hK => ?_)
    ·skip
     refine goes_ Try.func49 (by kernel_rfl) rfl #[.agg #[.int .i64 z0, .slice Af0 y0.length cf0], .agg #[.int .i64 z1, .slice Af1 y1.length cf1], .int .i64 i2] (by rfl) rfl rfl (by simp only [List.map_toArray, List.map_cons, List.map_nil]; rfl) ?_
     refine (impl_AddSums.calls k z0 _ _ y0 z1 _ _ y1 i2 g0 g1 c _ (Kd.S_reads' Sf0.out).2.2 (Kd.S_reads' Sf0.out).2.1 (Kd.S_reads' Sf1.out).2.2 (Kd.S_reads' Sf1.out).2.1 FI.out).mono ?_
     rintro e wf3 ⟨vr_, rfl, ho, hb⟩
     refine ⟨_, rfl, ?_⟩
     replace Sf0 := Aside0.mk (Kd.S_below Sf0.out hb)
     replace Sf1 := Aside0.mk (Kd.S_below Sf1.out hb)
     have HD3 := Aside0.mk (below_step HD2.out hb)
     have HZ2 := Aside0.mk hb.size
     have HO_ : Aside0 (Kd.V k89 89 wf3 w25.heap.size (fun k_ => (wf2.heap.size ≤ k_ ∧ k_ < wf3.heap.size) ∧ k_ < wf3.heap.size) vr_ g1) := ⟨Kd.V_bound (Kd.S_V (base' := w25.heap.size) (laws_FnExactAddSums.range ho HD2.out.size))⟩
     clear ho hb
     refine hK.out _ _ ⟨(blk_cell (blk_below KP0.out HD3.out) 0).trans rfl, (blk_cell (blk_below KP0.out HD3.out) 1).trans rfl, (blk_cell (blk_below KP1.out HD3.out) 0).trans rfl, (blk_cell (blk_below KP1.out HD3.out) 1).trans rfl⟩ (fun hHeld => ?_)
     clear hK K
     refine norm_ (a' := ?_) ?_ ?_
     rotate_left
     ·show Act.put _ (some 104) _ = _
      simp only [Act.put, sA, sZ, sS, i64_w, i32_w]
      rfl
     refine pure_ (i := 6) (N := some 98) (v := ?_) (a' := ?_) (bv 12 127) rfl rfl (any_of HT_.out (by kernel_rfl)) (fun _ _ _ h => h) (Or.inl ⟨by rfl, ?_⟩) ?_ ?_
     rotate_left
     ·intro w'
      go_simp
      with_reducible rfl
     rotate_left
     ·simp only [Act.put, sA, sZ, sS, i64_w, i32_w]
      rfl
     refine pure_ (i := 7) (N := some 105) (v := ?_) (a' := ?_) (bv 12 255) rfl rfl (any_of HT_.out (by kernel_rfl)) (fun _ _ _ h => h) (Or.inl ⟨by rfl, ?_⟩) ?_ ?_
     rotate_left
     ·intro w'
      go_simp
      with_reducible rfl
     rotate_left
     ·simp only [Act.put, sA, sZ, sS, i64_w, i32_w]
      rfl
     refine pure_ (i := 8) (N := some 106) (v := ?_) (a' := ?_) (bv 12 511) rfl rfl (any_of HT_.out (by kernel_rfl)) (fun _ _ _ h => h) (Or.inl ⟨by rfl, ?_⟩) ?_ ?_
     rotate_left
     ·intro w'
      go_simp
      with_reducible rfl
     rotate_left
     ·simp only [Act.put, sA, sZ, sS, i64_w, i32_w]
      rfl
     refine one_ (i := 9) (N := some 17) (bv 12 1023) rfl rfl (one_of HT_.out (by kernel_rfl)) (by decide) (fun K hK => ?_)
     refine box_step (by rfl) (N := 17) rfl (cs := #[.int .i64 0, .slice none 0 0]) (t := 49) ?hr ?_
     case hr => first | (go_simp; done) | (go_simp; rfl)
     intro gb_ hg_ wf4 hbox hb
     replace Sf0 := Aside0.mk (Kd.S_below Sf0.out hb)
     replace Sf1 := Aside0.mk (Kd.S_below Sf1.out hb)
     replace HO_ := Aside0.mk (Kd.V_below HO_.out hb)
     have HD4 := Aside0.mk (below_step HD3.out hb)
     have HZ3 := Aside0.mk hb.size
     have Hb_ := Aside0.mk hbox
     have HG_ : Aside0 (w25.heap.size ≤ gb_) := ⟨by have := HD3.out.size; omega⟩
     have HE_ := Aside0.mk hg_
     have HL_ := Aside0.mk (blk_lt hbox)
     clear hg_ hbox hb
     refine hK.out _ _ ⟨(blk_cell (blk_below KP0.out HD4.out) 0).trans rfl, (blk_cell (blk_below KP0.out HD4.out) 1).trans rfl, (blk_cell (blk_below KP1.out HD4.out) 0).trans rfl, (blk_cell (blk_below KP1.out HD4.out) 1).trans rfl⟩ (fun hHeld => ?_)
     clear hK K
     refine norm_ (a' := ?_) ?_ ?_
     rotate_left
     ·show Act.put _ (some 17) _ = _
      simp only [Act.put, sA, sZ, sS, i64_w, i32_w]
      rfl
     exact norm_ (by simp only [putAll, Act.put, sA, sZ, sS]) (hCont (gb_, .agg #[.int .i64 z0, .slice Af0 y0.length cf0], .agg #[.int .i64 z1, .slice Af1 y1.length cf1], vr_) _ ⟨Hb_.out, HG_.out, Kd.V_mono (Kd.V_bound HO_.out) (fun k_ hk => by have := HE_.out; have := HL_.out; have := HZ0.out; have := HD0.out.size; have := HZ1.out; have := HD1.out.size; have := HZ2.out; have := HD2.out.size; have := HZ3.out; have := HD3.out.size; omega), HD4.out⟩)
    skip
    refine box_step (by rfl) (N := 17) rfl (cs := #[.int .i64 0, .slice none 0 0]) (t := 49) ?hr ?_
    case hr => first | (go_simp; done) | (go_simp; rfl)
    intro gb_ hg_ wf3 hbox hb
    replace Sf0 := Aside0.mk (Kd.S_below Sf0.out hb)
    replace Sf1 := Aside0.mk (Kd.S_below Sf1.out hb)
    have HD3 := Aside0.mk (below_step HD2.out hb)
    have HZ2 := Aside0.mk hb.size
    have Hb_ := Aside0.mk hbox
    have HG_ : Aside0 (w25.heap.size ≤ gb_) := ⟨by have := HD2.out.size; omega⟩
    have HE_ := Aside0.mk hg_
    have HL_ := Aside0.mk (blk_lt hbox)
    clear hg_ hbox hb
    refine hK.out _ _ ⟨(blk_cell (blk_below KP0.out HD3.out) 0).trans rfl, (blk_cell (blk_below KP0.out HD3.out) 1).trans rfl, (blk_cell (blk_below KP1.out HD3.out) 0).trans rfl, (blk_cell (blk_below KP1.out HD3.out) 1).trans rfl⟩ (fun hHeld => ?_)
    clear hK K
    refine norm_ (a' := ?_) ?_ ?_
    rotate_left
    ·show Act.put _ (some 17) _ = _
     simp only [Act.put, sA, sZ, sS, i64_w, i32_w]
     rfl
    refine one_ (i := 5) (N := some 104) (bv 12 575) rfl rfl (one_of HT_.out (by kernel_rfl)) (by decide) (fun K hK => ?_)
    refine goes_ Try.func49 (by kernel_rfl) rfl #[.agg #[.int .i64 z0, .slice Af0 y0.length cf0], .agg #[.int .i64 z1, .slice Af1 y1.length cf1], .int .i64 i2] (by rfl) rfl rfl (by simp only [List.map_toArray, List.map_cons, List.map_nil]; rfl) ?_
    refine (impl_AddSums.calls k z0 _ _ y0 z1 _ _ y1 i2 g0 g1 c _ (Kd.S_reads' Sf0.out).2.2 (Kd.S_reads' Sf0.out).2.1 (Kd.S_reads' Sf1.out).2.2 (Kd.S_reads' Sf1.out).2.1 FI.out).mono ?_
    rintro e wf4 ⟨vr_, rfl, ho, hb⟩
    refine ⟨_, rfl, ?_⟩
    replace Sf0 := Aside0.mk (Kd.S_below Sf0.out hb)
    replace Sf1 := Aside0.mk (Kd.S_below Sf1.out hb)
    replace Hb_ := Aside0.mk (blk_below Hb_.out hb)
    have HD4 := Aside0.mk (below_step HD3.out hb)
    have HZ3 := Aside0.mk hb.size
    have HO_ : Aside0 (Kd.V k89 89 wf4 w25.heap.size (fun k_ => (wf3.heap.size ≤ k_ ∧ k_ < wf4.heap.size) ∧ k_ < wf4.heap.size) vr_ g1) := ⟨Kd.V_bound (Kd.S_V (base' := w25.heap.size) (laws_FnExactAddSums.range ho HD3.out.size))⟩
    clear ho hb
    refine hK.out _ _ ⟨(blk_cell (blk_below KP0.out HD4.out) 0).trans rfl, (blk_cell (blk_below KP0.out HD4.out) 1).trans rfl, (blk_cell (blk_below KP1.out HD4.out) 0).trans rfl, (blk_cell (blk_below KP1.out HD4.out) 1).trans rfl⟩ (fun hHeld => ?_)
    clear hK K
    refine norm_ (a' := ?_) ?_ ?_
    rotate_left
    ·show Act.put _ (some 104) _ = _
     simp only [Act.put, sA, sZ, sS, i64_w, i32_w]
     rfl
    refine pure_ (i := 6) (N := some 98) (v := ?_) (a' := ?_) (bv 12 639) rfl rfl (any_of HT_.out (by kernel_rfl)) (fun _ _ _ h => h) (Or.inl ⟨by rfl, ?_⟩) ?_ ?_
    rotate_left
    ·intro w'
     go_simp
     with_reducible rfl
    rotate_left
    ·simp only [Act.put, sA, sZ, sS, i64_w, i32_w]
     rfl
    refine pure_ (i := 7) (N := some 105) (v := ?_) (a' := ?_) (bv 12 767) rfl rfl (any_of HT_.out (by kernel_rfl)) (fun _ _ _ h => h) (Or.inl ⟨by rfl, ?_⟩) ?_ ?_
    rotate_left
    ·intro w'
     go_simp
     with_reducible rfl
    rotate_left
    ·simp only [Act.put, sA, sZ, sS, i64_w, i32_w]
     rfl
    refine pure_ (i := 8) (N := some 106) (v := ?_) (a' := ?_) (bv 12 1023) rfl rfl (any_of HT_.out (by kernel_rfl)) (fun _ _ _ h => h) (Or.inl ⟨by rfl, ?_⟩) ?_ ?_
    rotate_left
    ·intro w'
     go_simp
     with_reducible rfl
    rotate_left
    ·simp only [Act.put, sA, sZ, sS, i64_w, i32_w]
     rfl
    exact norm_ (by simp only [putAll, Act.put, sA, sZ, sS]) (hCont (gb_, .agg #[.int .i64 z0, .slice Af0 y0.length cf0], .agg #[.int .i64 z1, .slice Af1 y1.length cf1], vr_) _ ⟨Hb_.out, HG_.out, Kd.V_mono (Kd.V_bound HO_.out) (fun k_ hk => by have := HE_.out; have := HL_.out; have := HZ0.out; have := HD0.out.size; have := HZ1.out; have := HD1.out.size; have := HZ2.out; have := HD2.out.size; have := HZ3.out; have := HD3.out.size; omega), HD4.out⟩)
   skip
   refine box_step (by rfl) (N := 17) rfl (cs := #[.int .i64 0, .slice none 0 0]) (t := 49) ?hr ?_
   case hr => first | (go_simp; done) | (go_simp; rfl)
   intro gb_ hg_ wf2 hbox hb
   replace Sf0 := Aside0.mk (Kd.S_below Sf0.out hb)
   have HD2 := Aside0.mk (below_step HD1.out hb)
   have HZ1 := Aside0.mk hb.size
   have Hb_ := Aside0.mk hbox
   have HG_ : Aside0 (w25.heap.size ≤ gb_) := ⟨by have := HD1.out.size; omega⟩
   have HE_ := Aside0.mk hg_
   have HL_ := Aside0.mk (blk_lt hbox)
   clear hg_ hbox hb
   refine hK.out _ _ ⟨(blk_cell (blk_below KP0.out HD2.out) 0).trans rfl, (blk_cell (blk_below KP0.out HD2.out) 1).trans rfl, (blk_cell (blk_below KP1.out HD2.out) 0).trans rfl, (blk_cell (blk_below KP1.out HD2.out) 1).trans rfl⟩ (fun hHeld => ?_)
   clear hK K
   refine norm_ (a' := ?_) ?_ ?_
   rotate_left
   ·show Act.put _ (some 17) _ = _
    simp only [Act.put, sA, sZ, sS, i64_w, i32_w]
    rfl
   refine one_ (i := 3) (N := some 102) (bv 12 543) rfl rfl (one_of HT_.out (by kernel_rfl)) (by decide) (fun K hK => ?_)
   refine goes_ Try.func35 (by kernel_rfl) rfl #[.agg #[.int .i64 z1, .slice A1 l1.length c1]] (by rfl) rfl rfl (by simp only [List.map_toArray, List.map_cons, List.map_nil]; rfl) ?_
   refine (laws_toSum.calls k z1 _ _ l1 z1 y1 _ (Kd.C_below HA1.out (below_step HB.out HD2.out)) HC1.out FT1.out).mono ?_
   rintro e wf3 ⟨v_, rfl, ho, hb⟩
   refine ⟨_, rfl, ?_⟩
   replace Sf0 := Aside0.mk (Kd.S_below Sf0.out hb)
   replace Hb_ := Aside0.mk (blk_below Hb_.out hb)
   have HD3 := Aside0.mk (below_step HD2.out hb)
   have HZ2 := Aside0.mk hb.size
   have Sf1 := Aside0.mk (laws_FnExactAddSums.range ho HD2.out.size)
   clear ho hb
   obtain ⟨Af1, cf1, e_⟩ := Kd.S_slice Sf1.out
   subst e_
   refine hK.out _ _ ⟨(blk_cell (blk_below KP0.out HD3.out) 0).trans rfl, (blk_cell (blk_below KP0.out HD3.out) 1).trans rfl, (blk_cell (blk_below KP1.out HD3.out) 0).trans rfl, (blk_cell (blk_below KP1.out HD3.out) 1).trans rfl⟩ (fun hHeld => ?_)
   clear hK K
   refine norm_ (a' := ?_) ?_ ?_
   rotate_left
   ·show Act.put _ (some 102) _ = _
    simp only [Act.put, sA, sZ, sS, i64_w, i32_w]
    rfl
   refine one_ (i := 5) (N := some 104) (bv 12 575) rfl rfl (one_of HT_.out (by kernel_rfl)) (by decide) (fun K hK => ?_)
   refine goes_ Try.func49 (by kernel_rfl) rfl #[.agg #[.int .i64 z0, .slice Af0 y0.length cf0], .agg #[.int .i64 z1, .slice Af1 y1.length cf1], .int .i64 i2] (by rfl) rfl rfl (by simp only [List.map_toArray, List.map_cons, List.map_nil]; rfl) ?_
   refine (impl_AddSums.calls k z0 _ _ y0 z1 _ _ y1 i2 g0 g1 c _ (Kd.S_reads' Sf0.out).2.2 (Kd.S_reads' Sf0.out).2.1 (Kd.S_reads' Sf1.out).2.2 (Kd.S_reads' Sf1.out).2.1 FI.out).mono ?_
   rintro e wf4 ⟨vr_, rfl, ho, hb⟩
   refine ⟨_, rfl, ?_⟩
   replace Sf0 := Aside0.mk (Kd.S_below Sf0.out hb)
   replace Hb_ := Aside0.mk (blk_below Hb_.out hb)
   replace Sf1 := Aside0.mk (Kd.S_below Sf1.out hb)
   have HD4 := Aside0.mk (below_step HD3.out hb)
   have HZ3 := Aside0.mk hb.size
   have HO_ : Aside0 (Kd.V k89 89 wf4 w25.heap.size (fun k_ => (wf3.heap.size ≤ k_ ∧ k_ < wf4.heap.size) ∧ k_ < wf4.heap.size) vr_ g1) := ⟨Kd.V_bound (Kd.S_V (base' := w25.heap.size) (laws_FnExactAddSums.range ho HD3.out.size))⟩
   clear ho hb
   refine hK.out _ _ ⟨(blk_cell (blk_below KP0.out HD4.out) 0).trans rfl, (blk_cell (blk_below KP0.out HD4.out) 1).trans rfl, (blk_cell (blk_below KP1.out HD4.out) 0).trans rfl, (blk_cell (blk_below KP1.out HD4.out) 1).trans rfl⟩ (fun hHeld => ?_)
   clear hK K
   refine norm_ (a' := ?_) ?_ ?_
   rotate_left
   ·show Act.put _ (some 104) _ = _
    simp only [Act.put, sA, sZ, sS, i64_w, i32_w]
    rfl
   refine pure_ (i := 6) (N := some 98) (v := ?_) (a' := ?_) (bv 12 639) rfl rfl (any_of HT_.out (by kernel_rfl)) (fun _ _ _ h => h) (Or.inl ⟨by rfl, ?_⟩) ?_ ?_
   rotate_left
   ·intro w'
    go_simp
    with_reducible rfl
   rotate_left
   ·simp only [Act.put, sA, sZ, sS, i64_w, i32_w]
    rfl
   refine pure_ (i := 7) (N := some 105) (v := ?_) (a' := ?_) (bv 12 767) rfl rfl (any_of HT_.out (by kernel_rfl)) (fun _ _ _ h => h) (Or.inl ⟨by rfl, ?_⟩) ?_ ?_
   rotate_left
   ·intro w'
    go_simp
    with_reducible rfl
   rotate_left
   ·simp only [Act.put, sA, sZ, sS, i64_w, i32_w]
    rfl
   refine pure_ (i := 8) (N := some 106) (v := ?_) (a' := ?_) (bv 12 1023) rfl rfl (any_of HT_.out (by kernel_rfl)) (fun _ _ _ h => h) (Or.inl ⟨by rfl, ?_⟩) ?_ ?_
   rotate_left
   ·intro w'
    go_simp
    with_reducible rfl
   rotate_left
   ·simp only [Act.put, sA, sZ, sS, i64_w, i32_w]
    rfl
   exact norm_ (by simp only [putAll, Act.put, sA, sZ, sS]) (hCont (gb_, .agg #[.int .i64 z0, .slice Af0 y0.length cf0], .agg #[.int .i64 z1, .slice Af1 y1.length cf1], vr_) _ ⟨Hb_.out, HG_.out, Kd.V_mono (Kd.V_bound HO_.out) (fun k_ hk => by have := HE_.out; have := HL_.out; have := HZ0.out; have := HD0.out.size; have := HZ1.out; have := HD1.out.size; have := HZ2.out; have := HD2.out.size; have := HZ3.out; have := HD3.out.size; omega), HD4.out⟩)
  skip
  refine box_step (by rfl) (N := 17) rfl (cs := #[.int .i64 0, .slice none 0 0]) (t := 49) ?hr ?_
  case hr => first | (go_simp; done) | (go_simp; rfl)
  intro gb_ hg_ wf1 hbox hb
  have HD1 := Aside0.mk (below_step HD0.out hb)
  have HZ0 := Aside0.mk hb.size
  have Hb_ := Aside0.mk hbox
  have HG_ : Aside0 (w25.heap.size ≤ gb_) := ⟨by have := HD0.out.size; omega⟩
  have HE_ := Aside0.mk hg_
  have HL_ := Aside0.mk (blk_lt hbox)
  clear hg_ hbox hb
  refine hK.out _ _ ⟨(blk_cell (blk_below KP0.out HD1.out) 0).trans rfl, (blk_cell (blk_below KP0.out HD1.out) 1).trans rfl, (blk_cell (blk_below KP1.out HD1.out) 0).trans rfl, (blk_cell (blk_below KP1.out HD1.out) 1).trans rfl⟩ (fun hHeld => ?_)
  clear hK K
  refine norm_ (a' := ?_) ?_ ?_
  rotate_left
  ·show Act.put _ (some 17) _ = _
   simp only [Act.put, sA, sZ, sS, i64_w, i32_w]
   rfl
  refine one_ (i := 1) (N := some 100) (bv 12 535) rfl rfl (one_of HT_.out (by kernel_rfl)) (by decide) (fun K hK => ?_)
  refine goes_ Try.func35 (by kernel_rfl) rfl #[.agg #[.int .i64 z0, .slice A0 l0.length c0]] (by rfl) rfl rfl (by simp only [List.map_toArray, List.map_cons, List.map_nil]; rfl) ?_
  refine (laws_toSum.calls k z0 _ _ l0 z0 y0 _ (Kd.C_below HA0.out (below_step HB.out HD1.out)) HC0.out FT0.out).mono ?_
  rintro e wf2 ⟨v_, rfl, ho, hb⟩
  refine ⟨_, rfl, ?_⟩
  replace Hb_ := Aside0.mk (blk_below Hb_.out hb)
  have HD2 := Aside0.mk (below_step HD1.out hb)
  have HZ1 := Aside0.mk hb.size
  have Sf0 := Aside0.mk (laws_FnExactAddSums.range ho HD1.out.size)
  clear ho hb
  obtain ⟨Af0, cf0, e_⟩ := Kd.S_slice Sf0.out
  subst e_
  refine hK.out _ _ ⟨(blk_cell (blk_below KP0.out HD2.out) 0).trans rfl, (blk_cell (blk_below KP0.out HD2.out) 1).trans rfl, (blk_cell (blk_below KP1.out HD2.out) 0).trans rfl, (blk_cell (blk_below KP1.out HD2.out) 1).trans rfl⟩ (fun hHeld => ?_)
  clear hK K
  refine norm_ (a' := ?_) ?_ ?_
  rotate_left
  ·show Act.put _ (some 100) _ = _
   simp only [Act.put, sA, sZ, sS, i64_w, i32_w]
   rfl
  refine one_ (i := 3) (N := some 102) (bv 12 543) rfl rfl (one_of HT_.out (by kernel_rfl)) (by decide) (fun K hK => ?_)
  refine goes_ Try.func35 (by kernel_rfl) rfl #[.agg #[.int .i64 z1, .slice A1 l1.length c1]] (by rfl) rfl rfl (by simp only [List.map_toArray, List.map_cons, List.map_nil]; rfl) ?_
  refine (laws_toSum.calls k z1 _ _ l1 z1 y1 _ (Kd.C_below HA1.out (below_step HB.out HD2.out)) HC1.out FT1.out).mono ?_
  rintro e wf3 ⟨v_, rfl, ho, hb⟩
  refine ⟨_, rfl, ?_⟩
  replace Hb_ := Aside0.mk (blk_below Hb_.out hb)
  replace Sf0 := Aside0.mk (Kd.S_below Sf0.out hb)
  have HD3 := Aside0.mk (below_step HD2.out hb)
  have HZ2 := Aside0.mk hb.size
  have Sf1 := Aside0.mk (laws_FnExactAddSums.range ho HD2.out.size)
  clear ho hb
  obtain ⟨Af1, cf1, e_⟩ := Kd.S_slice Sf1.out
  subst e_
  refine hK.out _ _ ⟨(blk_cell (blk_below KP0.out HD3.out) 0).trans rfl, (blk_cell (blk_below KP0.out HD3.out) 1).trans rfl, (blk_cell (blk_below KP1.out HD3.out) 0).trans rfl, (blk_cell (blk_below KP1.out HD3.out) 1).trans rfl⟩ (fun hHeld => ?_)
  clear hK K
  refine norm_ (a' := ?_) ?_ ?_
  rotate_left
  ·show Act.put _ (some 102) _ = _
   simp only [Act.put, sA, sZ, sS, i64_w, i32_w]
   rfl
  refine one_ (i := 5) (N := some 104) (bv 12 575) rfl rfl (one_of HT_.out (by kernel_rfl)) (by decide) (fun K hK => ?_)
  refine goes_ Try.func49 (by kernel_rfl) rfl #[.agg #[.int .i64 z0, .slice Af0 y0.length cf0], .agg #[.int .i64 z1, .slice Af1 y1.length cf1], .int .i64 i2] (by rfl) rfl rfl (by simp only [List.map_toArray, List.map_cons, List.map_nil]; rfl) ?_
  refine (impl_AddSums.calls k z0 _ _ y0 z1 _ _ y1 i2 g0 g1 c _ (Kd.S_reads' Sf0.out).2.2 (Kd.S_reads' Sf0.out).2.1 (Kd.S_reads' Sf1.out).2.2 (Kd.S_reads' Sf1.out).2.1 FI.out).mono ?_
  rintro e wf4 ⟨vr_, rfl, ho, hb⟩
  refine ⟨_, rfl, ?_⟩
  replace Hb_ := Aside0.mk (blk_below Hb_.out hb)
  replace Sf0 := Aside0.mk (Kd.S_below Sf0.out hb)
  replace Sf1 := Aside0.mk (Kd.S_below Sf1.out hb)
  have HD4 := Aside0.mk (below_step HD3.out hb)
  have HZ3 := Aside0.mk hb.size
  have HO_ : Aside0 (Kd.V k89 89 wf4 w25.heap.size (fun k_ => (wf3.heap.size ≤ k_ ∧ k_ < wf4.heap.size) ∧ k_ < wf4.heap.size) vr_ g1) := ⟨Kd.V_bound (Kd.S_V (base' := w25.heap.size) (laws_FnExactAddSums.range ho HD3.out.size))⟩
  clear ho hb
  refine hK.out _ _ ⟨(blk_cell (blk_below KP0.out HD4.out) 0).trans rfl, (blk_cell (blk_below KP0.out HD4.out) 1).trans rfl, (blk_cell (blk_below KP1.out HD4.out) 0).trans rfl, (blk_cell (blk_below KP1.out HD4.out) 1).trans rfl⟩ (fun hHeld => ?_)
  clear hK K
  refine norm_ (a' := ?_) ?_ ?_
  rotate_left
  ·show Act.put _ (some 104) _ = _
   simp only [Act.put, sA, sZ, sS, i64_w, i32_w]
   rfl
  refine pure_ (i := 6) (N := some 98) (v := ?_) (a' := ?_) (bv 12 639) rfl rfl (any_of HT_.out (by kernel_rfl)) (fun _ _ _ h => h) (Or.inl ⟨by rfl, ?_⟩) ?_ ?_
  rotate_left
  ·intro w'
   go_simp
   with_reducible rfl
  rotate_left
  ·simp only [Act.put, sA, sZ, sS, i64_w, i32_w]
   rfl
  refine pure_ (i := 7) (N := some 105) (v := ?_) (a' := ?_) (bv 12 767) rfl rfl (any_of HT_.out (by kernel_rfl)) (fun _ _ _ h => h) (Or.inl ⟨by rfl, ?_⟩) ?_ ?_
  rotate_left
  ·intro w'
   go_simp
   with_reducible rfl
  rotate_left
  ·simp only [Act.put, sA, sZ, sS, i64_w, i32_w]
   rfl
  refine pure_ (i := 8) (N := some 106) (v := ?_) (a' := ?_) (bv 12 1023) rfl rfl (any_of HT_.out (by kernel_rfl)) (fun _ _ _ h => h) (Or.inl ⟨by rfl, ?_⟩) ?_ ?_
  rotate_left
  ·intro w'
   go_simp
   with_reducible rfl
  rotate_left
  ·simp only [Act.put, sA, sZ, sS, i64_w, i32_w]
   rfl
  exact norm_ (by simp only [putAll, Act.put, sA, sZ, sS]) (hCont (gb_, .agg #[.int .i64 z0, .slice Af0 y0.length cf0], .agg #[.int .i64 z1, .slice Af1 y1.length cf1], vr_) _ ⟨Hb_.out, HG_.out, Kd.V_mono (Kd.V_bound HO_.out) (fun k_ hk => by have := HE_.out; have := HL_.out; have := HZ0.out; have := HD0.out.size; have := HZ1.out; have := HD1.out.size; have := HZ2.out; have := HD2.out.size; have := HZ3.out; have := HD3.out.size; omega), HD4.out⟩)
 rintro ⟨gby, v1_, v2_, v_⟩ wjy ⟨hbox, hg, ho, hb⟩
 have hHeld : wjy.cell? ⟨w.heap.size, 0, none⟩ = some (.int .i64 z0) ∧ wjy.cell? ⟨w.heap.size, 1, none⟩ = some (.slice A0 l0.length c0) ∧ wjy.cell? ⟨(w.heap.size + 1), 0, none⟩ = some (.int .i64 z1) ∧ wjy.cell? ⟨(w.heap.size + 1), 1, none⟩ = some (.slice A1 l1.length c1) := ⟨(blk_cell (blk_below KP0.out hb) 0).trans rfl, (blk_cell (blk_below KP0.out hb) 1).trans rfl, (blk_cell (blk_below KP1.out hb) 0).trans rfl, (blk_cell (blk_below KP1.out hb) 1).trans rfl⟩
 have hq0 : wjy.cell? ⟨gby, 0, none⟩ = some (.int .i64 0) := (blk_cell hbox 0).trans rfl
 have hq1 : wjy.cell? ⟨gby, 1, none⟩ = some (.slice none 0 0) := (blk_cell hbox 1).trans rfl
 have hf0 := blk_frozen hbox 0
 have hf1 := blk_frozen hbox 1
 obtain ⟨Ay, cy, e_⟩ := Kd.V_slice ho
 subst e_
 refine norm_ (a' := ?_) ?_ ?_
 rotate_left
 ·simp only [putAll, Act.put, sA, sZ, sS]
  rfl
 refine last_ (i := 10) (N := none) (bv 12 2047) rfl rfl (one_of HT_.out (by kernel_rfl)) (by decide) (fun K hK => ?_)
 refine skip_ (w1 := ?_) (by rfl) rfl ?_ ?_
 rotate_left
 ·go_simp
  rfl
 refine hK.out _ _ ?_
 clear hK K
 refine pure_ (i := 11) (N := some 18) (v := ?_) (a' := ?_) (bv 12 4095) rfl rfl (any_of HT_.out (by kernel_rfl)) (fun _ _ _ h => h) (Or.inl ⟨by rfl, ?_⟩) ?_ ?_
 rotate_left
 ·intro w'
  go_simp
  with_reducible rfl
 rotate_left
 ·simp only [Act.put, sA, sZ, sS, i64_w, i32_w]
  rfl
 refine done_ (done_of HT_.out (by kernel_rfl)) ?_
 clear HD0 hq0 hq1 hf0 hf1
 have k_ := blk_put (cs' := #[.int .i64 g0, .slice Ay g1.length cy]) (blk_put (cs' := #[.int .i64 g0, .slice none 0 0]) hbox 0 (.int .i64 g0) rfl) 1 (.slice Ay g1.length cy) rfl
 have o_ := Kd.V_far (p := ⟨gby, 1, none⟩) (Kd.V_far (p := ⟨gby, 0, none⟩) ho (fun _ hk => hk.2) (.int .i64 g0)) (fun _ hk => hk.2) (.slice Ay g1.length cy)
 have b_ := below_set (below_set hb hg (j := 0) (v := .int .i64 g0)) hg (j := 1) (v := .slice Ay g1.length cy)
 have Z32 := Aside0.mk hg
 clear hbox ho hb hg
 obtain ⟨w26, h_⟩ : ∃ x_ : World, (wjy.setCell ⟨gby, 0, none⟩ (.int .i64 g0)).setCell ⟨gby, 1, none⟩ (.slice Ay g1.length cy) = x_ := ⟨_, rfl⟩
 rw [h_] at k_ o_ b_ ⊢
 clear h_
 have B_ := Aside0.mk b_
 have Ky := Aside0.mk k_
 have Sy : Aside0 (Kd.V k89 89 w26 w.heap.size (fun k_ => w25.heap.size ≤ k_ ∧ k_ < w26.heap.size) (.slice Ay g1.length cy) g1) := ⟨Kd.V_mono (Kd.V_bound o_) (fun k_ hk => ⟨hk.1.1.1, hk.2⟩)⟩
 clear b_ k_ o_
 replace KP0 := Aside0.mk (blk_below KP0.out B_.out)
 replace KP1 := Aside0.mk (blk_below KP1.out B_.out)
 replace KW := Aside0.mk (blk_below KW.out B_.out)
 replace KX0 := Aside0.mk (blk_below KX0.out B_.out)
 replace KX1 := Aside0.mk (blk_below KX1.out B_.out)
 replace KG := Aside0.mk (blk_below KG.out B_.out)
 replace SW := Aside0.mk (Kd.V_below SW.out B_.out)
 replace SM1 := Aside0.mk (Kd.S_below SM1.out B_.out)
 replace HB := Aside0.mk (below_step HB.out B_.out)
 have Z33 := Aside0.mk (B_.out).size
 clear B_
 have Z34 := Aside0.mk (blk_lt Ky.out)
 have hz_P0_0_0 : w26.cell? ⟨w.heap.size, 0, none⟩ = some (.int .i64 z0) := (blk_cell (KP0.out) 0).trans rfl
 have hz_P0_1_1 : w26.cell? ⟨w.heap.size, 1, none⟩ = some (.slice A0 l0.length c0) := (blk_cell (KP0.out) 1).trans rfl
 have hz_P1_0_2 : w26.cell? ⟨(w.heap.size + 1), 0, none⟩ = some (.int .i64 z1) := (blk_cell (KP1.out) 0).trans rfl
 have hz_P1_1_3 : w26.cell? ⟨(w.heap.size + 1), 1, none⟩ = some (.slice A1 l1.length c1) := (blk_cell (KP1.out) 1).trans rfl
 have hz_W_0_4 : w26.cell? ⟨gbW, 0, none⟩ = some (.int .i64 g0) := (blk_cell (KW.out) 0).trans rfl
 have hz_W_1_5 : w26.cell? ⟨gbW, 1, none⟩ = some (.slice AW g1.length cW) := (blk_cell (KW.out) 1).trans rfl
 have hz_X0_0_6 : w26.cell? ⟨w7.heap.size, 0, none⟩ = some (.int .i64 z0) := (blk_cell (KX0.out) 0).trans rfl
 have hz_X0_1_7 : w26.cell? ⟨w7.heap.size, 1, none⟩ = some (.slice Ax0 y0.length cx0) := (blk_cell (KX0.out) 1).trans rfl
 have hz_X1_0_8 : w26.cell? ⟨w9.heap.size, 0, none⟩ = some (.int .i64 z1) := (blk_cell (KX1.out) 0).trans rfl
 have hz_X1_1_9 : w26.cell? ⟨w9.heap.size, 1, none⟩ = some (.slice Ax1 y1.length cx1) := (blk_cell (KX1.out) 1).trans rfl
 have hz_G_0_10 : w26.cell? ⟨w11.heap.size, 0, none⟩ = some (.int .i64 g0) := (blk_cell (KG.out) 0).trans rfl
 have hz_G_1_11 : w26.cell? ⟨w11.heap.size, 1, none⟩ = some (.slice Ag g1.length cg) := (blk_cell (KG.out) 1).trans rfl
 have hz_y_0_12 : w26.cell? ⟨gby, 0, none⟩ = some (.int .i64 g0) := (blk_cell (Ky.out) 0).trans rfl
 have hz_y_1_13 : w26.cell? ⟨gby, 1, none⟩ = some (.slice Ay g1.length cy) := (blk_cell (Ky.out) 1).trans rfl
 go_wp2_with fail
 refine (laws_eqSum.calls k g0 _ _ g1 g0 _ _ g1 true _ (Kd.V_reads' Sy.out).2.2 (Kd.V_reads' Sy.out).2.1 (Kd.V_reads' SW.out).2.2 (Kd.V_reads' SW.out).2.1 FE.out).mono ?_
 rintro e w27 ⟨rfl, hb⟩
 clear hz_P0_0_0 hz_P0_1_1 hz_P1_0_2 hz_P1_1_3 hz_W_0_4 hz_W_1_5 hz_X0_0_6 hz_X0_1_7 hz_X1_0_8 hz_X1_1_9 hz_G_0_10 hz_G_1_11 hz_y_0_12 hz_y_1_13
 have B_ := Aside0.mk hb
 clear hb
 replace KP0 := Aside0.mk (blk_below KP0.out B_.out)
 replace KP1 := Aside0.mk (blk_below KP1.out B_.out)
 replace KW := Aside0.mk (blk_below KW.out B_.out)
 replace KX0 := Aside0.mk (blk_below KX0.out B_.out)
 replace KX1 := Aside0.mk (blk_below KX1.out B_.out)
 replace KG := Aside0.mk (blk_below KG.out B_.out)
 replace Ky := Aside0.mk (blk_below Ky.out B_.out)
 replace SW := Aside0.mk (Kd.V_below SW.out B_.out)
 replace SM1 := Aside0.mk (Kd.S_below SM1.out B_.out)
 replace Sy := Aside0.mk (Kd.V_below Sy.out B_.out)
 replace HB := Aside0.mk (below_step HB.out B_.out)
 have Z35 := Aside0.mk (B_.out).size
 clear B_
 have hz_P0_0_0 : w27.cell? ⟨w.heap.size, 0, none⟩ = some (.int .i64 z0) := (blk_cell (KP0.out) 0).trans rfl
 have hz_P0_1_1 : w27.cell? ⟨w.heap.size, 1, none⟩ = some (.slice A0 l0.length c0) := (blk_cell (KP0.out) 1).trans rfl
 have hz_P1_0_2 : w27.cell? ⟨(w.heap.size + 1), 0, none⟩ = some (.int .i64 z1) := (blk_cell (KP1.out) 0).trans rfl
 have hz_P1_1_3 : w27.cell? ⟨(w.heap.size + 1), 1, none⟩ = some (.slice A1 l1.length c1) := (blk_cell (KP1.out) 1).trans rfl
 have hz_W_0_4 : w27.cell? ⟨gbW, 0, none⟩ = some (.int .i64 g0) := (blk_cell (KW.out) 0).trans rfl
 have hz_W_1_5 : w27.cell? ⟨gbW, 1, none⟩ = some (.slice AW g1.length cW) := (blk_cell (KW.out) 1).trans rfl
 have hz_X0_0_6 : w27.cell? ⟨w7.heap.size, 0, none⟩ = some (.int .i64 z0) := (blk_cell (KX0.out) 0).trans rfl
 have hz_X0_1_7 : w27.cell? ⟨w7.heap.size, 1, none⟩ = some (.slice Ax0 y0.length cx0) := (blk_cell (KX0.out) 1).trans rfl
 have hz_X1_0_8 : w27.cell? ⟨w9.heap.size, 0, none⟩ = some (.int .i64 z1) := (blk_cell (KX1.out) 0).trans rfl
 have hz_X1_1_9 : w27.cell? ⟨w9.heap.size, 1, none⟩ = some (.slice Ax1 y1.length cx1) := (blk_cell (KX1.out) 1).trans rfl
 have hz_G_0_10 : w27.cell? ⟨w11.heap.size, 0, none⟩ = some (.int .i64 g0) := (blk_cell (KG.out) 0).trans rfl
 have hz_G_1_11 : w27.cell? ⟨w11.heap.size, 1, none⟩ = some (.slice Ag g1.length cg) := (blk_cell (KG.out) 1).trans rfl
 have hz_y_0_12 : w27.cell? ⟨gby, 0, none⟩ = some (.int .i64 g0) := (blk_cell (Ky.out) 0).trans rfl
 have hz_y_1_13 : w27.cell? ⟨gby, 1, none⟩ = some (.slice Ay g1.length cy) := (blk_cell (Ky.out) 1).trans rfl
 go_wp2_with fail
 have e_ := (Kd.S_reads' SM1.out).1
 have hh_ := laws_heldSum.calls k g0 _ _ p1 1 m _ (Kd.S_reads' SM1.out).2.2 (by rw [← e_]; exact (Kd.S_reads' SM1.out).2.1) FH.out
 rw [← e_] at hh_
 clear e_
 refine hh_.mono ?_
 clear hh_
 rintro e w28 ⟨rfl, hb⟩
 clear hz_P0_0_0 hz_P0_1_1 hz_P1_0_2 hz_P1_1_3 hz_W_0_4 hz_W_1_5 hz_X0_0_6 hz_X0_1_7 hz_X1_0_8 hz_X1_1_9 hz_G_0_10 hz_G_1_11 hz_y_0_12 hz_y_1_13
 have B_ := Aside0.mk hb
 clear hb
 replace KP0 := Aside0.mk (blk_below KP0.out B_.out)
 replace KP1 := Aside0.mk (blk_below KP1.out B_.out)
 replace KW := Aside0.mk (blk_below KW.out B_.out)
 replace KX0 := Aside0.mk (blk_below KX0.out B_.out)
 replace KX1 := Aside0.mk (blk_below KX1.out B_.out)
 replace KG := Aside0.mk (blk_below KG.out B_.out)
 replace Ky := Aside0.mk (blk_below Ky.out B_.out)
 replace SW := Aside0.mk (Kd.V_below SW.out B_.out)
 replace SM1 := Aside0.mk (Kd.S_below SM1.out B_.out)
 replace Sy := Aside0.mk (Kd.V_below Sy.out B_.out)
 replace HB := Aside0.mk (below_step HB.out B_.out)
 have Z36 := Aside0.mk (B_.out).size
 clear B_
 go_wp2
 go_ret
 exact ⟨rfl, HB.out⟩
def laws_FnExactAddSums.Pure : Prop := ∀ (z0 : Int) (l0 : List S110) (z1 : Int) (l1 : List S110) (i2 : Int), (Lit.int .i64 z0).wf = true → l0.length ≤ 9223372036854775807 → (∀ y ∈ l0, y.f0.length ≤ maxLen ∧ (∀ n ∈ y.f0, (Lit.int .i64 n).wf = true) ∧ (Lit.int .i64 y.f1).wf = true) → (Lit.int .i64 z1).wf = true → l1.length ≤ 9223372036854775807 → (∀ y ∈ l1, y.f0.length ≤ maxLen ∧ (∀ n ∈ y.f0, (Lit.int .i64 n).wf = true) ∧ (Lit.int .i64 y.f1).wf = true) → (Lit.int .i64 i2).wf = true → (∃ k s, laws_szSum.f k z0 l0 1048576 = some s ∧ s < 0) ∨ (∃ k s t, laws_szSum.f k z0 l0 1048576 = some s ∧ 0 ≤ s ∧ laws_szSum.f k z1 l1 s = some t ∧ t < 0) ∨ ∃ k c m g0 g1 p1 s0 m10 y0 q0 s1 m11 y1 q1, laws_FnExactAddSums.Told z0 l0 z1 l1 i2 k c m g0 g1 p1 s0 m10 y0 q0 s1 m11 y1 q1
set_option maxHeartbeats 4000000 in
set_option maxRecDepth 100000 in
theorem laws_FnExactAddSums.early (A0 : Option Addr) (c0 : Nat) (z0 : Int) (l0 : List S110) (A1 : Option Addr) (c1 : Nat) (z1 : Int) (l1 : List S110) (i2 : Int) (w : World) (hr0 : Kd.C k110 w A0 l0.length l0) (hc0 : l0.length ≤ c0) (hr1 : Kd.C k110 w A1 l1.length l1) (hc1 : l1.length ≤ c1) (k : Nat) (s : Int) (hFZ : laws_szSum.f k z0 l0 1048576 = some s) (hs : s < 0) :
  Calls Try.prog 13 #[.agg #[.int .i64 z0, .slice A0 l0.length c0], .agg #[.int .i64 z1, .slice A1 l1.length c1], .int .i64 i2] w fun e w' => e = .returned (.bool true) ∧ Below w.heap.size w w' := by
 have huA := Try.underlying44
 have HB0 := Aside0.mk (below_alloc (below_alloc (Below.refl w.heap.size w) (.cells #[.int .i64 z0, .slice A0 l0.length c0] 44)) (.cells #[.int .i64 z1, .slice A1 l1.length c1] 44))
 have hz0_0 : ((w.alloc (.cells #[.int .i64 z0, .slice A0 l0.length c0] 44)).alloc (.cells #[.int .i64 z1, .slice A1 l1.length c1] 44)).cell? ⟨w.heap.size, 0, none⟩ = some (.int .i64 z0) := (blk_cell (blk_alloc (blk_new w (.cells #[.int .i64 z0, .slice A0 l0.length c0] 44)) (.cells #[.int .i64 z1, .slice A1 l1.length c1] 44)) 0).trans rfl
 have hz0_1 : ((w.alloc (.cells #[.int .i64 z0, .slice A0 l0.length c0] 44)).alloc (.cells #[.int .i64 z1, .slice A1 l1.length c1] 44)).cell? ⟨w.heap.size, 1, none⟩ = some (.slice A0 l0.length c0) := (blk_cell (blk_alloc (blk_new w (.cells #[.int .i64 z0, .slice A0 l0.length c0] 44)) (.cells #[.int .i64 z1, .slice A1 l1.length c1] 44)) 1).trans rfl
 have hz1_0 : ((w.alloc (.cells #[.int .i64 z0, .slice A0 l0.length c0] 44)).alloc (.cells #[.int .i64 z1, .slice A1 l1.length c1] 44)).cell? ⟨(w.alloc (.cells #[.int .i64 z0, .slice A0 l0.length c0] 44)).heap.size, 0, none⟩ = some (.int .i64 z1) := (blk_cell (blk_new (w.alloc (.cells #[.int .i64 z0, .slice A0 l0.length c0] 44)) (.cells #[.int .i64 z1, .slice A1 l1.length c1] 44)) 0).trans rfl
 have hz1_1 : ((w.alloc (.cells #[.int .i64 z0, .slice A0 l0.length c0] 44)).alloc (.cells #[.int .i64 z1, .slice A1 l1.length c1] 44)).cell? ⟨(w.alloc (.cells #[.int .i64 z0, .slice A0 l0.length c0] 44)).heap.size, 1, none⟩ = some (.slice A1 l1.length c1) := (blk_cell (blk_new (w.alloc (.cells #[.int .i64 z0, .slice A0 l0.length c0] 44)) (.cells #[.int .i64 z1, .slice A1 l1.length c1] 44)) 1).trans rfl
 have FZ := Aside0.mk hFZ
 clear hFZ
 have HA0 := Aside0.mk (Kd.C_below hr0 HB0.out)
 have HC0 := Aside0.mk hc0
 clear hr0 hc0
 have HA1 := Aside0.mk (Kd.C_below hr1 HB0.out)
 have HC1 := Aside0.mk hc1
 clear hr1 hc1
 have ds : decide (s < 0) = true := decide_eq_true hs
 clear hs
 go_enter Try.func13, Try.ntmps13
 go_wp2_with fail
 refine (laws_szSum.calls k z0 _ _ l0 1048576 s _ HA0.out HC0.out FZ.out).mono ?_
 rintro e w2 ⟨rfl, hb⟩
 have HB2 := Aside0.mk (below_step HB0.out hb)
 clear hb
 go_wp2
 go_ret
 exact ⟨rfl, HB2.out⟩
set_option maxHeartbeats 4000000 in
set_option maxRecDepth 100000 in
theorem laws_FnExactAddSums.early2 (A0 : Option Addr) (c0 : Nat) (z0 : Int) (l0 : List S110) (A1 : Option Addr) (c1 : Nat) (z1 : Int) (l1 : List S110) (i2 : Int) (w : World) (hr0 : Kd.C k110 w A0 l0.length l0) (hc0 : l0.length ≤ c0) (hr1 : Kd.C k110 w A1 l1.length l1) (hc1 : l1.length ≤ c1) (k : Nat) (s t : Int) (hFZ : laws_szSum.f k z0 l0 1048576 = some s) (hs : 0 ≤ s) (hFY : laws_szSum.f k z1 l1 s = some t) (ht : t < 0) :
  Calls Try.prog 13 #[.agg #[.int .i64 z0, .slice A0 l0.length c0], .agg #[.int .i64 z1, .slice A1 l1.length c1], .int .i64 i2] w fun e w' => e = .returned (.bool true) ∧ Below w.heap.size w w' := by
 have huA := Try.underlying44
 have HB0 := Aside0.mk (below_alloc (below_alloc (Below.refl w.heap.size w) (.cells #[.int .i64 z0, .slice A0 l0.length c0] 44)) (.cells #[.int .i64 z1, .slice A1 l1.length c1] 44))
 have hz0_0 : ((w.alloc (.cells #[.int .i64 z0, .slice A0 l0.length c0] 44)).alloc (.cells #[.int .i64 z1, .slice A1 l1.length c1] 44)).cell? ⟨w.heap.size, 0, none⟩ = some (.int .i64 z0) := (blk_cell (blk_alloc (blk_new w (.cells #[.int .i64 z0, .slice A0 l0.length c0] 44)) (.cells #[.int .i64 z1, .slice A1 l1.length c1] 44)) 0).trans rfl
 have hz0_1 : ((w.alloc (.cells #[.int .i64 z0, .slice A0 l0.length c0] 44)).alloc (.cells #[.int .i64 z1, .slice A1 l1.length c1] 44)).cell? ⟨w.heap.size, 1, none⟩ = some (.slice A0 l0.length c0) := (blk_cell (blk_alloc (blk_new w (.cells #[.int .i64 z0, .slice A0 l0.length c0] 44)) (.cells #[.int .i64 z1, .slice A1 l1.length c1] 44)) 1).trans rfl
 have hz1_0 : ((w.alloc (.cells #[.int .i64 z0, .slice A0 l0.length c0] 44)).alloc (.cells #[.int .i64 z1, .slice A1 l1.length c1] 44)).cell? ⟨(w.alloc (.cells #[.int .i64 z0, .slice A0 l0.length c0] 44)).heap.size, 0, none⟩ = some (.int .i64 z1) := (blk_cell (blk_new (w.alloc (.cells #[.int .i64 z0, .slice A0 l0.length c0] 44)) (.cells #[.int .i64 z1, .slice A1 l1.length c1] 44)) 0).trans rfl
 have hz1_1 : ((w.alloc (.cells #[.int .i64 z0, .slice A0 l0.length c0] 44)).alloc (.cells #[.int .i64 z1, .slice A1 l1.length c1] 44)).cell? ⟨(w.alloc (.cells #[.int .i64 z0, .slice A0 l0.length c0] 44)).heap.size, 1, none⟩ = some (.slice A1 l1.length c1) := (blk_cell (blk_new (w.alloc (.cells #[.int .i64 z0, .slice A0 l0.length c0] 44)) (.cells #[.int .i64 z1, .slice A1 l1.length c1] 44)) 1).trans rfl
 have FZ := Aside0.mk hFZ
 clear hFZ
 have FY := Aside0.mk hFY
 clear hFY
 have HA0 := Aside0.mk (Kd.C_below hr0 HB0.out)
 have HC0 := Aside0.mk hc0
 clear hr0 hc0
 have HA1 := Aside0.mk (Kd.C_below hr1 HB0.out)
 have HC1 := Aside0.mk hc1
 clear hr1 hc1
 have ds : decide (s < 0) = false := decide_eq_false (by omega)
 have dt : decide (t < 0) = true := decide_eq_true ht
 clear hs ht
 go_enter Try.func13, Try.ntmps13
 go_wp2_with fail
 refine (laws_szSum.calls k z0 _ _ l0 1048576 s _ HA0.out HC0.out FZ.out).mono ?_
 rintro e w2 ⟨rfl, hb⟩
 have HB2 := Aside0.mk (below_step HB0.out hb)
 have HA2 := Aside0.mk (Kd.C_below HA1.out hb)
 have k2 := blk_below (blk_new (w.alloc (.cells #[.int .i64 z0, .slice A0 l0.length c0] 44)) (.cells #[.int .i64 z1, .slice A1 l1.length c1] 44)) hb
 rw [show (w.alloc (.cells #[.int .i64 z0, .slice A0 l0.length c0] 44)).heap.size = w.heap.size + 1 by simp] at k2
 have hx0 : w2.cell? ⟨w.heap.size + 1, 0, none⟩ = some (.int .i64 z1) := (blk_cell k2 0).trans rfl
 have hx1 : w2.cell? ⟨w.heap.size + 1, 1, none⟩ = some (.slice A1 l1.length c1) := (blk_cell k2 1).trans rfl
 clear hb k2
 go_wp2_with fail
 refine (laws_szSum.calls k z1 _ _ l1 s t _ HA2.out HC1.out FY.out).mono ?_
 rintro e w3 ⟨rfl, hb⟩
 have HB3 := Aside0.mk (below_step HB2.out hb)
 clear hb
 go_wp2
 go_ret
 exact ⟨rfl, HB3.out⟩
theorem laws_FnExactAddSums.walk (P : laws_FnExactAddSums.Pure) (A0 : Option Addr) (c0 : Nat) (z0 : Int) (l0 : List S110) (A1 : Option Addr) (c1 : Nat) (z1 : Int) (l1 : List S110) (i2 : Int) (w : World) (hr0 : Kd.C k110 w A0 l0.length l0) (hc0 : l0.length ≤ c0) (wz0 : (Lit.int .i64 z0).wf = true) (hg0 : ∀ y ∈ l0, y.f0.length ≤ maxLen ∧ (∀ n ∈ y.f0, (Lit.int .i64 n).wf = true) ∧ (Lit.int .i64 y.f1).wf = true) (hr1 : Kd.C k110 w A1 l1.length l1) (hc1 : l1.length ≤ c1) (wz1 : (Lit.int .i64 z1).wf = true) (hg1 : ∀ y ∈ l1, y.f0.length ≤ maxLen ∧ (∀ n ∈ y.f0, (Lit.int .i64 n).wf = true) ∧ (Lit.int .i64 y.f1).wf = true) (wi2 : (Lit.int .i64 i2).wf = true) :
  Calls Try.prog 13 #[.agg #[.int .i64 z0, .slice A0 l0.length c0], .agg #[.int .i64 z1, .slice A1 l1.length c1], .int .i64 i2] w fun e w' => e = .returned (.bool true) ∧ Below w.heap.size w w' := by
 rcases P z0 l0 z1 l1 i2 wz0 hr0.2.1 hg0 wz1 hr1.2.1 hg1 wi2 with ⟨k, s, h1, h2⟩ | ⟨k, s, t, h1, h2, h3, h4⟩ | ⟨k, c, m, g0, g1, p1, s0, m10, y0, q0, s1, m11, y1, q1, h⟩
 ·exact laws_FnExactAddSums.early _ _ z0 l0 _ _ z1 l1 i2 w hr0 hc0 hr1 hc1 k s h1 h2
 ·exact laws_FnExactAddSums.early2 _ _ z0 l0 _ _ z1 l1 i2 w hr0 hc0 hr1 hc1 k s t h1 h2 h3 h4
 exact laws_FnExactAddSums.one _ _ z0 l0 _ _ z1 l1 i2 w hr0 hc0 hr1 hc1 k c m g0 g1 p1 s0 m10 y0 q0 s1 m11 y1 q1 h
end Go.Proofs.Ytpfhbdpmafcnfaa.G
