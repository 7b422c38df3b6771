-- Written by the session's program mk.py (which runs the kit's print.py over functions and over contracts given by hand).
import Derived.Test.YtckmncebedhgeaaG0
import Derived.Test.YtckmncebedhgeaaG131
import Derived.Test.YtckmncebedhgeaaG133
import Derived.Test.YtckmncebedhgeaaG134
import Derived.Test.YtckmncebedhgeaaGgG
import Derived.Test.YtckmncebedhgeaaGgI
import Derived.Test.YtckmncebedhgeaaGgU
namespace Go.Proofs.Ytckmncebedhgeaa.G
open Go.RowKit Go.Maps Go.Proofs.YtckmncebedhgeaaW.PrintWords Go.Proofs.YtckmncebedhgeaaW.PrintLast Go.Proofs.YtckmncebedhgeaaW.PrintMore
attribute [local go_sem] max2_int min2_int max_two min_two max_three min_three max_four min_four   -- for this text's walks alone
set_option linter.unusedVariables false
set_option linter.unusedSimpArgs false

/-! ### spec_SwitchChord: function 73 -/
def spec_SwitchChord.f (k : Nat) (l0_0 : List Int) (l0_1 : List Int) (l0_2 : List Int) (a1 : Int) : Option (List Int × List Int × List Int × Int) := (spec_l07Chord.f k l0_0 l0_1 l0_2 (([a1] : List Int))).bind fun t106 => (if t106 = 0 then ((spec_l07Copy.f l0_0 l0_1 l0_2).bind fun bt107 => (if 0 ≤ a1 then (if a1 < (bt107.2.1.length : Int) then (if a1 < (bt107.2.2.length : Int) then (some (bt107.1, (bt107.2.1.set (a1 : Int).toNat (wrap64 (1 - (rd bt107.2.1 a1)))), (bt107.2.2.set (a1 : Int).toNat (wrap64 (-(rd bt107.2.2 a1)))), 0)) else (none)) else (none)) else (none))) else (some (([] : List Int), ([] : List Int), ([] : List Int), t106)))
theorem spec_SwitchChord.mono : ∀ a0 a1 a2 a3 k, LeO (spec_SwitchChord.f k a0 a1 a2 a3) (spec_SwitchChord.f (k + 1) a0 a1 a2 a3) := by
  intro a0 a1 a2 a3 k
  unfold spec_SwitchChord.f
  repeat' first
      | (with_reducible exact spec_l07Chord.mono _ _ _ _ _)
      | (with_reducible exact LeO.refl _)
      | (with_reducible exact LeO.none _)
      | (with_reducible refine LeO.ite ?_ ?_)
      | (with_reducible refine LeO.bind ?_ (fun _ => ?_))
      | exact spec_l07Chord.mono _ _ _ _ _
      | exact LeO.none _
      | refine LeO.ite ?_ ?_
      | refine LeO.bind ?_ (fun _ => ?_)
def spec_SwitchChord.T5 : Bool × List (List Nat × List Nat) := (true, [([], []), ([0], [0]), ([], []), ([], []), ([3], [3]), ([], []), ([4, 5], [4, 5]), ([6], [6]), ([7], [7]), ([1, 2, 0, 1, 2, 3, 4, 5, 6, 7, 8], [1, 2]), ([9, 8, 0, 1, 2, 3, 4, 5, 6, 7, 8], [8, 9])])
def spec_SwitchChord.B5 : List Nat := [0, 1, 0, 0, 8, 0, 56, 120, 248, 511, 1023]
theorem spec_SwitchChord.tab5 : rtab .any (opsOf Try.f73 5) = spec_SwitchChord.T5 := by kernel_rfl
theorem spec_SwitchChord.bits5 : waitsOk spec_SwitchChord.T5.2 spec_SwitchChord.B5 = true := by kernel_rfl
def spec_SwitchChord.T6 : Bool × List (List Nat × List Nat) := (true, [([], []), ([0], [0]), ([], []), ([], []), ([3], [3]), ([], []), ([4, 5], [4, 5]), ([6], [6]), ([7], [7]), ([1, 2, 0, 1, 2, 3, 4, 5, 6, 7, 8], [1, 2]), ([9, 8, 0, 1, 2, 3, 4, 5, 6, 7, 8], [8, 9])])
def spec_SwitchChord.B6 : List Nat := [0, 1, 0, 0, 8, 0, 56, 120, 248, 511, 1023]
theorem spec_SwitchChord.tab6 : rtab .any (opsOf Try.f73 6) = spec_SwitchChord.T6 := by kernel_rfl
theorem spec_SwitchChord.bits6 : waitsOk spec_SwitchChord.T6.2 spec_SwitchChord.B6 = true := by kernel_rfl
set_option maxHeartbeats 8000000 in
set_option maxRecDepth 100000 in
theorem spec_SwitchChord.calls (k : Nat) (A0_0 : Option Addr) (c0_0 : Nat) (l0_0 : List Int) (A0_1 : Option Addr) (c0_1 : Nat) (l0_1 : List Int) (A0_2 : Option Addr) (c0_2 : Nat) (l0_2 : List Int) (a1 : Int) (r1 : List Int) (r2 : List Int) (r3 : List Int) (r4 : Int) (w : World) (hr0_0 : Kd.C (Kd.int .i64) w A0_0 l0_0.length l0_0) (hc0_0 : l0_0.length ≤ c0_0) (hr0_1 : Kd.C (Kd.int .i64) w A0_1 l0_1.length l0_1) (hc0_1 : l0_1.length ≤ c0_1) (hr0_2 : Kd.C (Kd.int .i64) w A0_2 l0_2.length l0_2) (hc0_2 : l0_2.length ≤ c0_2) (h : spec_SwitchChord.f k l0_0 l0_1 l0_2 a1 = some (r1, r2, r3, r4)) :
    Calls Try.prog 73 #[.agg #[.slice A0_0 l0_0.length c0_0, .slice A0_1 l0_1.length c0_1, .slice A0_2 l0_2.length c0_2], .int .i64 a1] w fun e w' => ∃ v0_ v1_ v2_ : Value, e = .returned (.tuple #[.agg #[v0_, v1_, v2_], .int .i64 r4]) ∧ Kd.R (Kd.int .i64) 2 w' w.heap.size (fun k_ => some k_ ≠ (v1_ : Value).ownBlock ∧ some k_ ≠ (v2_ : Value).ownBlock) v0_ r1 ∧ Kd.R (Kd.int .i64) 2 w' w.heap.size (fun k_ => some k_ ≠ (v0_ : Value).ownBlock ∧ some k_ ≠ (v2_ : Value).ownBlock) v1_ r2 ∧ Kd.R (Kd.int .i64) 2 w' w.heap.size (fun k_ => some k_ ≠ (v0_ : Value).ownBlock ∧ some k_ ≠ (v1_ : Value).ownBlock) v2_ r3 ∧ Below w.heap.size w w' := by
  have hu49 := Try.underlying49
  have HR0_0 := Aside0.mk hr0_0
  have HC0_0 := Aside0.mk hc0_0
  clear hr0_0 hc0_0
  have HR0_1 := Aside0.mk hr0_1
  have HC0_1 := Aside0.mk hc0_1
  clear hr0_1 hc0_1
  have HR0_2 := Aside0.mk hr0_2
  have HC0_2 := Aside0.mk hc0_2
  clear hr0_2 hc0_2
  have HB := Aside0.mk (Below.refl w.heap.size w)
  have H : ((spec_l07Chord.f k l0_0 l0_1 l0_2 (([a1] : List Int))).bind fun t106 => (if t106 = 0 then ((spec_l07Copy.f l0_0 l0_1 l0_2).bind fun bt107 => (if 0 ≤ a1 then (if a1 < (bt107.2.1.length : Int) then (if a1 < (bt107.2.2.length : Int) then (some (bt107.1, (bt107.2.1.set (a1 : Int).toNat (wrap64 (1 - (rd bt107.2.1 a1)))), (bt107.2.2.set (a1 : Int).toNat (wrap64 (-(rd bt107.2.2 a1)))), 0)) else (none)) else (none)) else (none))) else (some (([] : List Int), ([] : List Int), ([] : List Int), t106)))) = some (r1, r2, r3, r4) := h
  clear h
  obtain ⟨y103, hy103⟩ : ∃ y_ : List Int, y_ = (([a1] : List Int)) := ⟨_, rfl⟩
  replace H : ((spec_l07Chord.f k l0_0 l0_1 l0_2 y103).bind fun t106 => (if t106 = 0 then ((spec_l07Copy.f l0_0 l0_1 l0_2).bind fun bt107 => (if 0 ≤ a1 then (if a1 < (bt107.2.1.length : Int) then (if a1 < (bt107.2.2.length : Int) then (some (bt107.1, (bt107.2.1.set (a1 : Int).toNat (wrap64 (1 - (rd bt107.2.1 a1)))), (bt107.2.2.set (a1 : Int).toNat (wrap64 (-(rd bt107.2.2 a1)))), 0)) else (none)) else (none)) else (none))) else (some (([] : List Int), ([] : List Int), ([] : List Int), t106)))) = some (r1, r2, r3, r4) := by first | (rw [hy103]; with_reducible exact H) | (have H2_ := (Option.bind_some _ _).symm.trans H; rw [hy103]; with_reducible exact H2_) | (have H2_ := (Option.bind_some _ _).symm.trans H; with_reducible exact H2_) | with_reducible exact H | (rw [hy103]; exact H) | exact H
  have Ny103 := Aside0.mk hy103
  clear hy103
  replace H := Option.bind_eq_some_iff.mp H
  obtain ⟨t106, A30, H⟩ := H
  replace H : (if t106 = 0 then ((spec_l07Copy.f l0_0 l0_1 l0_2).bind fun bt107 => (if 0 ≤ a1 then (if a1 < (bt107.2.1.length : Int) then (if a1 < (bt107.2.2.length : Int) then (some (bt107.1, (bt107.2.1.set (a1 : Int).toNat (wrap64 (1 - (rd bt107.2.1 a1)))), (bt107.2.2.set (a1 : Int).toNat (wrap64 (-(rd bt107.2.2 a1)))), 0)) else (none)) else (none)) else (none))) else (some (([] : List Int), ([] : List Int), ([] : List Int), t106))) = some (r1, r2, r3, r4) := H
  have A3 := Aside0.mk A30
  clear A30
  by_cases c4 : t106 = 0
  · rw [if_pos c4] at H
    have c4b0 : (t106 == 0) = true := beq_iff_eq.mpr c4
    have c4b1 : (t106 != 0) = false := bne_eq_false_iff_eq.mpr c4
    clear c4
    replace H := Option.bind_eq_some_iff.mp H
    obtain ⟨⟨t107, t110, t113⟩, A50, H⟩ := H
    replace H : (if 0 ≤ a1 then (if a1 < (t110.length : Int) then (if a1 < (t113.length : Int) then (some (t107, (t110.set (a1 : Int).toNat (wrap64 (1 - (rd t110 a1)))), (t113.set (a1 : Int).toNat (wrap64 (-(rd t113 a1)))), 0)) else (none)) else (none)) else (none)) = some (r1, r2, r3, r4) := H
    have A5 := Aside0.mk A50
    clear A50
    by_cases c6 : 0 ≤ a1
    · rw [if_pos c6] at H
      have c6b0 : decide (0 ≤ a1) = true := decide_eq_true c6
      clear c6
      by_cases c7 : a1 < (t110.length : Int)
      · rw [if_pos c7] at H
        have c7b0 : decide (a1 < (t110.length : Int)) = true := decide_eq_true c7
        clear c7
        obtain ⟨y118, hy118⟩ : ∃ y_ : List Int, y_ = (t110.set (a1 : Int).toNat (wrap64 (1 - (rd t110 a1)))) := ⟨_, rfl⟩
        replace H : (if a1 < (t113.length : Int) then (some (t107, y118, (t113.set (a1 : Int).toNat (wrap64 (-(rd t113 a1)))), 0)) else (none)) = some (r1, r2, r3, r4) := by first | (rw [hy118]; with_reducible exact H) | (have H2_ := (Option.bind_some _ _).symm.trans H; rw [hy118]; with_reducible exact H2_) | (have H2_ := (Option.bind_some _ _).symm.trans H; with_reducible exact H2_) | with_reducible exact H | (rw [hy118]; exact H) | exact H
        have Ny118 := Aside0.mk hy118
        clear hy118
        by_cases c9 : a1 < (t113.length : Int)
        · rw [if_pos c9] at H
          have c9b0 : decide (a1 < (t113.length : Int)) = true := decide_eq_true c9
          clear c9
          obtain ⟨y120, hy120⟩ : ∃ y_ : List Int, y_ = (t113.set (a1 : Int).toNat (wrap64 (-(rd t113 a1)))) := ⟨_, rfl⟩
          replace H : (some (t107, y118, y120, 0)) = some (r1, r2, r3, r4) := by first | (rw [hy120]; with_reducible exact H) | (have H2_ := (Option.bind_some _ _).symm.trans H; rw [hy120]; with_reducible exact H2_) | (have H2_ := (Option.bind_some _ _).symm.trans H; with_reducible exact H2_) | with_reducible exact H | (rw [hy120]; exact H) | exact H
          have Ny120 := Aside0.mk hy120
          clear hy120
          simp only [Option.some.injEq, Prod.mk.injEq] at H
          obtain ⟨rfl, rfl, rfl, rfl⟩ := H
          go_enter Try.func73, Try.ntmps73
          try go_wp2_with (first | ((with_reducible refine gate_dst (N := 2) rfl ?_); refine box_event ?hg (N := 2) ?hd (cs := #[.slice A0_0 l0_0.length c0_0, .slice A0_1 l0_1.length c0_1, .slice A0_2 l0_2.length c0_2]) (t := 49) ?hr ?_; (case hd => rfl); (case hg => rfl); (case hr => first | (go_simp; done) | (go_simp; rfl)); intro gb101 hg w11 hbox hb; have n0_ := Aside0.mk (below_step (by repeat (first | (with_reducible first | exact HB.out | apply below_alloc | apply pw_below_drewN | apply below_drew1) | exact HB.out)) hb); have n1_ := Aside0.mk (hbox); have n2_ := Aside0.mk ((by rw [hg]; exact (below_size (by repeat (first | (with_reducible first | exact HB.out | apply below_alloc | apply pw_below_drewN | apply below_drew1) | exact HB.out))) : w.heap.size ≤ gb101)); have n3_ := Aside0.mk ((by rw [hg]; exact (below_size (by repeat (first | (with_reducible first | exact HB.out | apply below_alloc | apply pw_below_drewN | apply below_drew1) | exact HB.out))) : w.heap.size ≤ gb101)); clear HB; have HB := n0_; have BK101 := n1_; have GW101 := n2_; have GE101 := n3_; clear n0_ n1_ n2_ n3_; clear hb hbox hg) | ((with_reducible refine gate_dst (N := 4) rfl ?_); refine box_event ?hg (N := 4) ?hd (cs := #[.slice none 0 0, .slice none 0 0, .slice none 0 0]) (t := 49) ?hr ?_; (case hd => rfl); (case hg => rfl); (case hr => first | (go_simp; done) | (go_simp; rfl)); intro gb102 hg w12 hbox hb; have n0_ := Aside0.mk (blk_below (g := gb101) (o := .cells #[.slice A0_0 l0_0.length c0_0, .slice A0_1 l0_1.length c0_1, .slice A0_2 l0_2.length c0_2] 49 (0, 0)) (by (with_reducible repeat (first | refine blk_drewN ?_ _ | refine blk_drew ?_ | refine blk_alloc ?_ _)); exact BK101.out) hb); have n1_ := Aside0.mk (below_step (by repeat (first | (with_reducible first | exact HB.out | apply below_alloc | apply pw_below_drewN | apply below_drew1 | refine below_set ?_ GE101.out) | exact HB.out)) hb); have n2_ := Aside0.mk (hbox); have n3_ := Aside0.mk ((by rw [hg]; exact (below_size (by repeat (first | (with_reducible first | exact HB.out | apply below_alloc | apply pw_below_drewN | apply below_drew1 | refine below_set ?_ GE101.out) | exact HB.out))) : w.heap.size ≤ gb102)); have n4_ := Aside0.mk ((by rw [hg]; exact (below_size (by repeat (first | (with_reducible first | exact HB.out | apply below_alloc | apply pw_below_drewN | apply below_drew1 | refine below_set ?_ GE101.out) | exact HB.out))) : w.heap.size ≤ gb102)); have n5_ := Aside0.mk ((by rw [hg]; exact Nat.ne_of_lt (blk_lt (g := gb101) (o := .cells #[.slice A0_0 l0_0.length c0_0, .slice A0_1 l0_1.length c0_1, .slice A0_2 l0_2.length c0_2] 49 (0, 0)) (by (with_reducible repeat (first | refine blk_drewN ?_ _ | refine blk_drew ?_ | refine blk_alloc ?_ _)); exact BK101.out)) : gb101 ≠ gb102)); have n6_ := Aside0.mk ((by rw [hg]; exact Nat.ne_of_gt (blk_lt (g := gb101) (o := .cells #[.slice A0_0 l0_0.length c0_0, .slice A0_1 l0_1.length c0_1, .slice A0_2 l0_2.length c0_2] 49 (0, 0)) (by (with_reducible repeat (first | refine blk_drewN ?_ _ | refine blk_drew ?_ | refine blk_alloc ?_ _)); exact BK101.out)) : gb102 ≠ gb101)); clear BK101; clear HB; have BK101 := n0_; have HB := n1_; have BK102 := n2_; have GW102 := n3_; have GE102 := n4_; have NB101_102 := n5_; have NB102_101 := n6_; clear n0_ n1_ n2_ n3_ n4_ n5_ n6_; clear hb hbox hg; have hnb13 := NB101_102.out; have hnc13 := NB102_101.out; have hcz14_0 : w12.cell? ⟨gb101, 0, none⟩ = some (.slice A0_0 l0_0.length c0_0) := (blk_cell BK101.out 0).trans rfl; have hcz14_1 : w12.cell? ⟨gb101, 1, none⟩ = some (.slice A0_1 l0_1.length c0_1) := (blk_cell BK101.out 1).trans rfl; have hcz14_2 : w12.cell? ⟨gb101, 2, none⟩ = some (.slice A0_2 l0_2.length c0_2) := (blk_cell BK101.out 2).trans rfl; have hfz14_0 := blk_frozen BK101.out 0; have hfz14_1 := blk_frozen BK101.out 1; have hfz14_2 := blk_frozen BK101.out 2) | ((with_reducible refine gate_dst (N := 10) rfl ?_); refine Kd.R_lit (Kd.int .i64) _ 2 ?hg (N := 10) ?hd (xs := ([a1] : List Int)) (inner := [.int .i64 a1]) (ok := fun _ => True) (okp := fun _ => True) ?hr ?hp (fun _ hk => hk) trivial (Below.refl _ _) (Nat.le_refl _) (by simp) ?_; (case hd => rfl); (case hg => rfl); (case hr => first | (go_simp; done) | (go_simp; rfl)); (case hp => exact (Reps.one (show Kd.M (Kd.int .i64) _ _ _ a1 [.int .i64 a1] from rfl) (Reps.none _ _))); intro v104 w15 ho16 hb hg_ hnew_; clear hg_ hnew_; (first | rw [← Ny103.out] at ho16 | (simp only [Int.reduceToNat] at ho16; rw [← Ny103.out] at ho16)); have n0_ := Aside0.mk (Kd.R_lower ho16 (below_size (by repeat (first | (with_reducible first | exact HB.out | apply below_alloc | apply pw_below_drewN | apply below_drew1 | refine below_set ?_ GE101.out | refine below_set ?_ GE102.out) | exact HB.out)))); have n1_ := Aside0.mk (blk_below (g := gb101) (o := .cells #[.slice A0_0 l0_0.length c0_0, .slice A0_1 l0_1.length c0_1, .slice A0_2 l0_2.length c0_2] 49 (0, 0)) (by (with_reducible repeat (first | refine blk_drewN ?_ _ | refine blk_drew ?_ | refine blk_alloc ?_ _)); exact BK101.out) hb); have n2_ := Aside0.mk (blk_below (g := gb102) (o := .cells #[.slice none 0 0, .slice none 0 0, .slice none 0 0] 49 (0, 0)) (by (with_reducible repeat (first | refine blk_drewN ?_ _ | refine blk_drew ?_ | refine blk_alloc ?_ _)); exact BK102.out) hb); have n3_ := Aside0.mk (below_step (by repeat (first | (with_reducible first | exact HB.out | apply below_alloc | apply pw_below_drewN | apply below_drew1 | refine below_set ?_ GE101.out | refine below_set ?_ GE102.out) | exact HB.out)) hb); clear BK101; clear BK102; clear HB; have HO105 := n0_; have BK101 := n1_; have BK102 := n2_; have HB := n3_; clear n0_ n1_ n2_ n3_; clear hb ho16; obtain ⟨Ao17, co17, eo17⟩ := Kd.R_slice HO105.out; subst eo17) | ((with_reducible refine gate_callee (f := 133) rfl ?_); refine goesL_ (some 11) rfl rfl Try.func133 (by kernel_rfl) rfl #[.agg #[.slice A0_0 l0_0.length c0_0, .slice A0_1 l0_1.length c0_1, .slice A0_2 l0_2.length c0_2], .slice Ao17 y103.length co17] rfl (by (try simp only [List.map_toArray, List.map_cons, List.map_nil]); first | done | rfl | (simp only [List.length_drop, List.length_take]; rfl)) ?_; (with_reducible refine (spec_l07Chord.calls k _ _ l0_0 _ _ l0_1 _ _ l0_2 _ _ y103 t106 _ ?side1 ?side2 ?side3 ?side4 ?side5 ?side6 ?side7 ?side8 A3.out).mono ?_); (case side1 => repeat (first | exact (Kd.C_below HR0_0.out HB.out) | (with_reducible refine Kd.C_alloc ?_ _) | (with_reducible refine Kd.C_drewN ?_ _) | (with_reducible refine Kd.C_drew ?_))); (case side2 => exact HC0_0.out); (case side3 => repeat (first | exact (Kd.C_below HR0_1.out HB.out) | (with_reducible refine Kd.C_alloc ?_ _) | (with_reducible refine Kd.C_drewN ?_ _) | (with_reducible refine Kd.C_drew ?_))); (case side4 => exact HC0_1.out); (case side5 => repeat (first | exact (Kd.C_below HR0_2.out HB.out) | (with_reducible refine Kd.C_alloc ?_ _) | (with_reducible refine Kd.C_drewN ?_ _) | (with_reducible refine Kd.C_drew ?_))); (case side6 => exact HC0_2.out); (case side7 => repeat (first | exact (Kd.R_reads' HO105.out).2.2 | (with_reducible refine Kd.C_alloc ?_ _) | (with_reducible refine Kd.C_drewN ?_ _) | (with_reducible refine Kd.C_drew ?_))); (case side8 => exact (Kd.R_reads' HO105.out).2.1); rintro e w18 ⟨rfl, hb⟩; refine ⟨_, rfl, ?_⟩; have n0_ := Aside0.mk (Kd.R_below (by (with_reducible repeat (first | apply Kd.R_alloc | apply Kd.R_drewN | apply Kd.R_drew)); exact HO105.out) hb); have n1_ := Aside0.mk (blk_below (g := gb101) (o := .cells #[.slice A0_0 l0_0.length c0_0, .slice A0_1 l0_1.length c0_1, .slice A0_2 l0_2.length c0_2] 49 (0, 0)) (by (with_reducible repeat (first | refine blk_drewN ?_ _ | refine blk_drew ?_ | refine blk_alloc ?_ _)); exact BK101.out) hb); have n2_ := Aside0.mk (blk_below (g := gb102) (o := .cells #[.slice none 0 0, .slice none 0 0, .slice none 0 0] 49 (0, 0)) (by (with_reducible repeat (first | refine blk_drewN ?_ _ | refine blk_drew ?_ | refine blk_alloc ?_ _)); exact BK102.out) hb); have n3_ := Aside0.mk (below_step (by repeat (first | (with_reducible first | exact HB.out | apply below_alloc | apply pw_below_drewN | apply below_drew1 | refine below_set ?_ GE101.out | refine below_set ?_ GE102.out) | exact HB.out)) hb); clear HO105; clear BK101; clear BK102; clear HB; have HO105 := n0_; have BK101 := n1_; have BK102 := n2_; have HB := n3_; clear n0_ n1_ n2_ n3_; (try clear hb); (try clear hb2); (try clear hk); (try clear hi); have hcz19_0 : w18.cell? ⟨gb101, 0, none⟩ = some (.slice A0_0 l0_0.length c0_0) := (blk_cell BK101.out 0).trans rfl; have hcz19_1 : w18.cell? ⟨gb101, 1, none⟩ = some (.slice A0_1 l0_1.length c0_1) := (blk_cell BK101.out 1).trans rfl; have hcz19_2 : w18.cell? ⟨gb101, 2, none⟩ = some (.slice A0_2 l0_2.length c0_2) := (blk_cell BK101.out 2).trans rfl; have hfz19_0 := blk_frozen BK101.out 0; have hfz19_1 := blk_frozen BK101.out 1; have hfz19_2 := blk_frozen BK101.out 2) | ((with_reducible refine gate_callee (f := 134) rfl ?_); refine goesL_ (some 17) rfl rfl Try.func134 (by kernel_rfl) rfl #[.agg #[.slice A0_0 l0_0.length c0_0, .slice A0_1 l0_1.length c0_1, .slice A0_2 l0_2.length c0_2]] rfl (by (try simp only [List.map_toArray, List.map_cons, List.map_nil]); first | done | rfl | (simp only [List.length_drop, List.length_take]; rfl)) ?_; (with_reducible refine (spec_l07Copy.calls _ _ l0_0 _ _ l0_1 _ _ l0_2 t107 t110 t113 _ ?side1 ?side2 ?side3 ?side4 ?side5 ?side6 A5.out).mono ?_); (case side1 => repeat (first | exact (Kd.C_below HR0_0.out HB.out) | (with_reducible refine Kd.C_alloc ?_ _) | (with_reducible refine Kd.C_drewN ?_ _) | (with_reducible refine Kd.C_drew ?_))); (case side2 => exact HC0_0.out); (case side3 => repeat (first | exact (Kd.C_below HR0_1.out HB.out) | (with_reducible refine Kd.C_alloc ?_ _) | (with_reducible refine Kd.C_drewN ?_ _) | (with_reducible refine Kd.C_drew ?_))); (case side4 => exact HC0_1.out); (case side5 => repeat (first | exact (Kd.C_below HR0_2.out HB.out) | (with_reducible refine Kd.C_alloc ?_ _) | (with_reducible refine Kd.C_drewN ?_ _) | (with_reducible refine Kd.C_drew ?_))); (case side6 => exact HC0_2.out); rintro e w20 ⟨v108, v111, v114, rfl, ho0, ho1, ho2, hb⟩; refine ⟨_, rfl, ?_⟩; have n0_ := Aside0.mk (Kd.R_mono (Kd.R_told (Kd.R_told (Kd.R_told (Kd.R_old (by (with_reducible repeat (first | apply Kd.R_alloc | apply Kd.R_drewN | apply Kd.R_drew)); exact HO105.out) hb) (Kd.R_base ho0)) (Kd.R_base ho1)) (Kd.R_base ho2)) (fun _ h_ => h_.1)); have n1_ := Aside0.mk (Kd.R_lower (Kd.R_new' ho0 (Kd.R_lt (by (with_reducible repeat (first | apply Kd.R_alloc | apply Kd.R_drewN | apply Kd.R_drew)); exact HO105.out))) (below_size (by repeat (first | (with_reducible first | exact HB.out | apply below_alloc | apply pw_below_drewN | apply below_drew1 | refine below_set ?_ GE101.out | refine below_set ?_ GE102.out) | exact HB.out)))); have n2_ := Aside0.mk (Kd.R_lower (Kd.R_new' ho1 (Kd.R_lt (by (with_reducible repeat (first | apply Kd.R_alloc | apply Kd.R_drewN | apply Kd.R_drew)); exact HO105.out))) (below_size (by repeat (first | (with_reducible first | exact HB.out | apply below_alloc | apply pw_below_drewN | apply below_drew1 | refine below_set ?_ GE101.out | refine below_set ?_ GE102.out) | exact HB.out)))); have n3_ := Aside0.mk (Kd.R_lower (Kd.R_new' ho2 (Kd.R_lt (by (with_reducible repeat (first | apply Kd.R_alloc | apply Kd.R_drewN | apply Kd.R_drew)); exact HO105.out))) (below_size (by repeat (first | (with_reducible first | exact HB.out | apply below_alloc | apply pw_below_drewN | apply below_drew1 | refine below_set ?_ GE101.out | refine below_set ?_ GE102.out) | exact HB.out)))); have n4_ := Aside0.mk (blk_below (g := gb101) (o := .cells #[.slice A0_0 l0_0.length c0_0, .slice A0_1 l0_1.length c0_1, .slice A0_2 l0_2.length c0_2] 49 (0, 0)) (by (with_reducible repeat (first | refine blk_drewN ?_ _ | refine blk_drew ?_ | refine blk_alloc ?_ _)); exact BK101.out) hb); have n5_ := Aside0.mk (blk_below (g := gb102) (o := .cells #[.slice none 0 0, .slice none 0 0, .slice none 0 0] 49 (0, 0)) (by (with_reducible repeat (first | refine blk_drewN ?_ _ | refine blk_drew ?_ | refine blk_alloc ?_ _)); exact BK102.out) hb); have n6_ := Aside0.mk (below_step (by repeat (first | (with_reducible first | exact HB.out | apply below_alloc | apply pw_below_drewN | apply below_drew1 | refine below_set ?_ GE101.out | refine below_set ?_ GE102.out) | exact HB.out)) hb); clear HO105; clear BK101; clear BK102; clear HB; have HO105 := n0_; have HO109 := n1_; have HO112 := n2_; have HO115 := n3_; have BK101 := n4_; have BK102 := n5_; have HB := n6_; clear n0_ n1_ n2_ n3_ n4_ n5_ n6_; (try clear hb); (try clear hb2); (try clear hk); (try clear hi); (try clear ho0); (try clear ho1); (try clear ho2)) | ((with_reducible refine gate_dst (N := 7) rfl ?_); refine box_event ?hg (N := 7) ?hd (cs := #[.slice none 0 0, .slice none 0 0, .slice none 0 0]) (t := 49) ?hr ?_; (case hd => rfl); (case hg => rfl); (case hr => first | (go_simp; done) | (go_simp; rfl)); intro gb116 hg w21 hbox hb; have n0_ := Aside0.mk (Kd.R_below (by (with_reducible repeat (first | apply Kd.R_alloc | apply Kd.R_drewN | apply Kd.R_drew)); exact HO105.out) hb); have n1_ := Aside0.mk (Kd.R_below (by (with_reducible repeat (first | apply Kd.R_alloc | apply Kd.R_drewN | apply Kd.R_drew)); exact HO109.out) hb); have n2_ := Aside0.mk (Kd.R_below (by (with_reducible repeat (first | apply Kd.R_alloc | apply Kd.R_drewN | apply Kd.R_drew)); exact HO112.out) hb); have n3_ := Aside0.mk (Kd.R_below (by (with_reducible repeat (first | apply Kd.R_alloc | apply Kd.R_drewN | apply Kd.R_drew)); exact HO115.out) hb); have n4_ := Aside0.mk (blk_below (g := gb101) (o := .cells #[.slice A0_0 l0_0.length c0_0, .slice A0_1 l0_1.length c0_1, .slice A0_2 l0_2.length c0_2] 49 (0, 0)) (by (with_reducible repeat (first | refine blk_drewN ?_ _ | refine blk_drew ?_ | refine blk_alloc ?_ _)); exact BK101.out) hb); have n5_ := Aside0.mk (blk_below (g := gb102) (o := .cells #[.slice none 0 0, .slice none 0 0, .slice none 0 0] 49 (0, 0)) (by (with_reducible repeat (first | refine blk_drewN ?_ _ | refine blk_drew ?_ | refine blk_alloc ?_ _)); exact BK102.out) hb); have n6_ := Aside0.mk (below_step (by repeat (first | (with_reducible first | exact HB.out | apply below_alloc | apply pw_below_drewN | apply below_drew1 | refine below_set ?_ GE101.out | refine below_set ?_ GE102.out) | exact HB.out)) hb); have n7_ := Aside0.mk (hbox); have n8_ := Aside0.mk ((by rw [hg]; exact (below_size (by repeat (first | (with_reducible first | exact HB.out | apply below_alloc | apply pw_below_drewN | apply below_drew1 | refine below_set ?_ GE101.out | refine below_set ?_ GE102.out) | exact HB.out))) : w.heap.size ≤ gb116)); have n9_ := Aside0.mk ((by rw [hg]; exact (below_size (by repeat (first | (with_reducible first | exact HB.out | apply below_alloc | apply pw_below_drewN | apply below_drew1 | refine below_set ?_ GE101.out | refine below_set ?_ GE102.out) | exact HB.out))) : w.heap.size ≤ gb116)); have n10_ := Aside0.mk ((by rw [hg]; exact Nat.ne_of_lt (blk_lt (g := gb101) (o := .cells #[.slice A0_0 l0_0.length c0_0, .slice A0_1 l0_1.length c0_1, .slice A0_2 l0_2.length c0_2] 49 (0, 0)) (by (with_reducible repeat (first | refine blk_drewN ?_ _ | refine blk_drew ?_ | refine blk_alloc ?_ _)); exact BK101.out)) : gb101 ≠ gb116)); have n11_ := Aside0.mk ((by rw [hg]; exact Nat.ne_of_gt (blk_lt (g := gb101) (o := .cells #[.slice A0_0 l0_0.length c0_0, .slice A0_1 l0_1.length c0_1, .slice A0_2 l0_2.length c0_2] 49 (0, 0)) (by (with_reducible repeat (first | refine blk_drewN ?_ _ | refine blk_drew ?_ | refine blk_alloc ?_ _)); exact BK101.out)) : gb116 ≠ gb101)); have n12_ := Aside0.mk ((by rw [hg]; exact Nat.ne_of_lt (blk_lt (g := gb102) (o := .cells #[.slice none 0 0, .slice none 0 0, .slice none 0 0] 49 (0, 0)) (by (with_reducible repeat (first | refine blk_drewN ?_ _ | refine blk_drew ?_ | refine blk_alloc ?_ _)); exact BK102.out)) : gb102 ≠ gb116)); have n13_ := Aside0.mk ((by rw [hg]; exact Nat.ne_of_gt (blk_lt (g := gb102) (o := .cells #[.slice none 0 0, .slice none 0 0, .slice none 0 0] 49 (0, 0)) (by (with_reducible repeat (first | refine blk_drewN ?_ _ | refine blk_drew ?_ | refine blk_alloc ?_ _)); exact BK102.out)) : gb116 ≠ gb102)); clear HO105; clear HO109; clear HO112; clear HO115; clear BK101; clear BK102; clear HB; have HO105 := n0_; have HO109 := n1_; have HO112 := n2_; have HO115 := n3_; have BK101 := n4_; have BK102 := n5_; have HB := n6_; have BK116 := n7_; have GW116 := n8_; have GE116 := n9_; have NB101_116 := n10_; have NB116_101 := n11_; have NB102_116 := n12_; have NB116_102 := n13_; clear n0_ n1_ n2_ n3_ n4_ n5_ n6_ n7_ n8_ n9_ n10_ n11_ n12_ n13_; clear hb hbox hg; obtain ⟨Ao22, co22, eo22⟩ := Kd.R_slice HO109.out; subst eo22; have hnb23 := NB116_101.out; have hnc23 := NB101_116.out; have hnb24 := NB116_102.out; have hnc24 := NB102_116.out; have hcz25_0 : w21.cell? ⟨gb116, 0, none⟩ = some (.slice none 0 0) := (blk_cell BK116.out 0).trans rfl; have hcz25_1 : w21.cell? ⟨gb116, 1, none⟩ = some (.slice none 0 0) := (blk_cell BK116.out 1).trans rfl; have hcz25_2 : w21.cell? ⟨gb116, 2, none⟩ = some (.slice none 0 0) := (blk_cell BK116.out 2).trans rfl; have hfz25_0 := blk_frozen BK116.out 0; have hfz25_1 := blk_frozen BK116.out 1; have hfz25_2 := blk_frozen BK116.out 2; obtain ⟨Ao26, co26, eo26⟩ := Kd.R_slice HO112.out; subst eo26; obtain ⟨Ao27, co27, eo27⟩ := Kd.R_slice HO115.out; subst eo27))
          have n0_ : Aside0 (Kd.R (Kd.int .i64) 2 (((w21.setCell ⟨gb116, 0, none⟩ (.slice Ao22 t107.length co22)).setCell ⟨gb116, 1, none⟩ (.slice Ao26 t110.length co26)).setCell ⟨gb116, 2, none⟩ (.slice Ao27 t113.length co27)) w.heap.size (fun k_ => some k_ ≠ (.slice Ao22 t107.length co22 : Value).ownBlock ∧ some k_ ≠ (.slice Ao26 t110.length co26 : Value).ownBlock ∧ some k_ ≠ (.slice Ao27 t113.length co27 : Value).ownBlock) (.slice Ao17 y103.length co17) y103) := ⟨by (with_reducible repeat (first | apply Kd.R_alloc | apply Kd.R_drewN | apply Kd.R_drew)); exact Kd.R_mono (Kd.R_far (p := ⟨gb116, 2, none⟩) (Kd.R_far (p := ⟨gb116, 1, none⟩) (Kd.R_far (p := ⟨gb116, 0, none⟩) (Kd.R_types HO105.out BK116.out (by decide)) (fun _ hk => hk.2) (.slice Ao22 t107.length co22)) (fun _ hk => hk.2) (.slice Ao26 t110.length co26)) (fun _ hk => hk.2) (.slice Ao27 t113.length co27)) (fun _ hk => ⟨hk.1.1.1.2, ⟨hk.1.1.2, hk.1.2⟩⟩)⟩
          have n1_ : Aside0 (Kd.R (Kd.int .i64) 2 (((w21.setCell ⟨gb116, 0, none⟩ (.slice Ao22 t107.length co22)).setCell ⟨gb116, 1, none⟩ (.slice Ao26 t110.length co26)).setCell ⟨gb116, 2, none⟩ (.slice Ao27 t113.length co27)) w.heap.size (fun k_ => some k_ ≠ (.slice Ao17 y103.length co17 : Value).ownBlock ∧ some k_ ≠ (.slice Ao26 t110.length co26 : Value).ownBlock ∧ some k_ ≠ (.slice Ao27 t113.length co27 : Value).ownBlock) (.slice Ao22 t107.length co22) t107) := ⟨by (with_reducible repeat (first | apply Kd.R_alloc | apply Kd.R_drewN | apply Kd.R_drew)); exact Kd.R_mono (Kd.R_far (p := ⟨gb116, 2, none⟩) (Kd.R_far (p := ⟨gb116, 1, none⟩) (Kd.R_far (p := ⟨gb116, 0, none⟩) (Kd.R_types HO109.out BK116.out (by decide)) (fun _ hk => hk.2) (.slice Ao22 t107.length co22)) (fun _ hk => hk.2) (.slice Ao26 t110.length co26)) (fun _ hk => hk.2) (.slice Ao27 t113.length co27)) (fun _ hk => ⟨hk.1.2, ⟨hk.1.1.1, hk.1.1.2⟩⟩)⟩
          have n2_ : Aside0 (Kd.R (Kd.int .i64) 2 (((w21.setCell ⟨gb116, 0, none⟩ (.slice Ao22 t107.length co22)).setCell ⟨gb116, 1, none⟩ (.slice Ao26 t110.length co26)).setCell ⟨gb116, 2, none⟩ (.slice Ao27 t113.length co27)) w.heap.size (fun k_ => some k_ ≠ (.slice Ao17 y103.length co17 : Value).ownBlock ∧ some k_ ≠ (.slice Ao22 t107.length co22 : Value).ownBlock ∧ some k_ ≠ (.slice Ao27 t113.length co27 : Value).ownBlock) (.slice Ao26 t110.length co26) t110) := ⟨by (with_reducible repeat (first | apply Kd.R_alloc | apply Kd.R_drewN | apply Kd.R_drew)); exact Kd.R_mono (Kd.R_far (p := ⟨gb116, 2, none⟩) (Kd.R_far (p := ⟨gb116, 1, none⟩) (Kd.R_far (p := ⟨gb116, 0, none⟩) (Kd.R_types HO112.out BK116.out (by decide)) (fun _ hk => hk.2) (.slice Ao22 t107.length co22)) (fun _ hk => hk.2) (.slice Ao26 t110.length co26)) (fun _ hk => hk.2) (.slice Ao27 t113.length co27)) (fun _ hk => ⟨hk.1.2, ⟨hk.1.1.1, hk.1.1.2⟩⟩)⟩
          have n3_ : Aside0 (Kd.R (Kd.int .i64) 2 (((w21.setCell ⟨gb116, 0, none⟩ (.slice Ao22 t107.length co22)).setCell ⟨gb116, 1, none⟩ (.slice Ao26 t110.length co26)).setCell ⟨gb116, 2, none⟩ (.slice Ao27 t113.length co27)) w.heap.size (fun k_ => some k_ ≠ (.slice Ao17 y103.length co17 : Value).ownBlock ∧ some k_ ≠ (.slice Ao22 t107.length co22 : Value).ownBlock ∧ some k_ ≠ (.slice Ao26 t110.length co26 : Value).ownBlock) (.slice Ao27 t113.length co27) t113) := ⟨by (with_reducible repeat (first | apply Kd.R_alloc | apply Kd.R_drewN | apply Kd.R_drew)); exact Kd.R_mono (Kd.R_far (p := ⟨gb116, 2, none⟩) (Kd.R_far (p := ⟨gb116, 1, none⟩) (Kd.R_far (p := ⟨gb116, 0, none⟩) (Kd.R_types HO115.out BK116.out (by decide)) (fun _ hk => hk.2) (.slice Ao22 t107.length co22)) (fun _ hk => hk.2) (.slice Ao26 t110.length co26)) (fun _ hk => hk.2) (.slice Ao27 t113.length co27)) (fun _ hk => ⟨hk.1.2, ⟨hk.1.1.1, hk.1.1.2⟩⟩)⟩
          have n4_ : Aside0 ((((w21.setCell ⟨gb116, 0, none⟩ (.slice Ao22 t107.length co22)).setCell ⟨gb116, 1, none⟩ (.slice Ao26 t110.length co26)).setCell ⟨gb116, 2, none⟩ (.slice Ao27 t113.length co27)).heap[gb101]? = some (.cells #[.slice A0_0 l0_0.length c0_0, .slice A0_1 l0_1.length c0_1, .slice A0_2 l0_2.length c0_2] 49 (0, 0))) := ⟨by (with_reducible repeat (first | refine blk_drewN ?_ _ | refine blk_drew ?_ | refine blk_alloc ?_ _)); refine blk_far ?_ NB101_116.out _; (with_reducible repeat (first | refine blk_drewN ?_ _ | refine blk_drew ?_ | refine blk_alloc ?_ _)); refine blk_far ?_ NB101_116.out _; (with_reducible repeat (first | refine blk_drewN ?_ _ | refine blk_drew ?_ | refine blk_alloc ?_ _)); refine blk_far ?_ NB101_116.out _; (with_reducible repeat (first | refine blk_drewN ?_ _ | refine blk_drew ?_ | refine blk_alloc ?_ _)); exact BK101.out⟩
          have n5_ : Aside0 ((((w21.setCell ⟨gb116, 0, none⟩ (.slice Ao22 t107.length co22)).setCell ⟨gb116, 1, none⟩ (.slice Ao26 t110.length co26)).setCell ⟨gb116, 2, none⟩ (.slice Ao27 t113.length co27)).heap[gb102]? = some (.cells #[.slice none 0 0, .slice none 0 0, .slice none 0 0] 49 (0, 0))) := ⟨by (with_reducible repeat (first | refine blk_drewN ?_ _ | refine blk_drew ?_ | refine blk_alloc ?_ _)); refine blk_far ?_ NB102_116.out _; (with_reducible repeat (first | refine blk_drewN ?_ _ | refine blk_drew ?_ | refine blk_alloc ?_ _)); refine blk_far ?_ NB102_116.out _; (with_reducible repeat (first | refine blk_drewN ?_ _ | refine blk_drew ?_ | refine blk_alloc ?_ _)); refine blk_far ?_ NB102_116.out _; (with_reducible repeat (first | refine blk_drewN ?_ _ | refine blk_drew ?_ | refine blk_alloc ?_ _)); exact BK102.out⟩
          have n6_ : Aside0 ((((w21.setCell ⟨gb116, 0, none⟩ (.slice Ao22 t107.length co22)).setCell ⟨gb116, 1, none⟩ (.slice Ao26 t110.length co26)).setCell ⟨gb116, 2, none⟩ (.slice Ao27 t113.length co27)).heap[gb116]? = some (.cells #[.slice Ao22 t107.length co22, .slice Ao26 t110.length co26, .slice Ao27 t113.length co27] 49 (0, 0))) := ⟨by (with_reducible repeat (first | refine blk_drewN ?_ _ | refine blk_drew ?_ | refine blk_alloc ?_ _)); refine blk_put (cs := #[.slice Ao22 t107.length co22, .slice Ao26 t110.length co26, .slice none 0 0]) ?_ 2 _ rfl; (with_reducible repeat (first | refine blk_drewN ?_ _ | refine blk_drew ?_ | refine blk_alloc ?_ _)); refine blk_put (cs := #[.slice Ao22 t107.length co22, .slice none 0 0, .slice none 0 0]) ?_ 1 _ rfl; (with_reducible repeat (first | refine blk_drewN ?_ _ | refine blk_drew ?_ | refine blk_alloc ?_ _)); refine blk_put (cs := #[.slice none 0 0, .slice none 0 0, .slice none 0 0]) ?_ 0 _ rfl; (with_reducible repeat (first | refine blk_drewN ?_ _ | refine blk_drew ?_ | refine blk_alloc ?_ _)); exact BK116.out⟩
          have n7_ : Aside0 (Below w.heap.size w (((w21.setCell ⟨gb116, 0, none⟩ (.slice Ao22 t107.length co22)).setCell ⟨gb116, 1, none⟩ (.slice Ao26 t110.length co26)).setCell ⟨gb116, 2, none⟩ (.slice Ao27 t113.length co27))) := ⟨by repeat (first | (with_reducible first | exact HB.out | apply below_alloc | apply pw_below_drewN | apply below_drew1 | refine below_set ?_ GE101.out | refine below_set ?_ GE102.out | refine below_set ?_ GE116.out) | exact HB.out)⟩
          (try clear HO105)
          (try clear HO109)
          (try clear HO112)
          (try clear HO115)
          (try clear BK101)
          (try clear BK102)
          (try clear BK116)
          (try clear HB)
          generalize (((w21.setCell ⟨gb116, 0, none⟩ (.slice Ao22 t107.length co22)).setCell ⟨gb116, 1, none⟩ (.slice Ao26 t110.length co26)).setCell ⟨gb116, 2, none⟩ (.slice Ao27 t113.length co27)) = w28 at n0_ n1_ n2_ n3_ n4_ n5_ n6_ n7_ ⊢
          have HO105 := n0_
          have HO109 := n1_
          have HO112 := n2_
          have HO115 := n3_
          have BK101 := n4_
          have BK102 := n5_
          have BK116 := n6_
          have HB := n7_
          clear n0_ n1_ n2_ n3_ n4_ n5_ n6_ n7_
          have n0_ := Aside0.mk (Kd.R_drew HO105.out)
          have n1_ := Aside0.mk (Kd.R_drew HO109.out)
          have n2_ := Aside0.mk (Kd.R_drew HO112.out)
          have n3_ := Aside0.mk (Kd.R_drew HO115.out)
          have n4_ := Aside0.mk (blk_drew BK101.out)
          have n5_ := Aside0.mk (blk_drew BK102.out)
          have n6_ := Aside0.mk (blk_drew BK116.out)
          have n7_ := Aside0.mk (below_drew1 HB.out)
          clear HO105
          clear HO109
          clear HO112
          clear HO115
          clear BK101
          clear BK102
          clear BK116
          clear HB
          have HO105 := n0_
          have HO109 := n1_
          have HO112 := n2_
          have HO115 := n3_
          have BK101 := n4_
          have BK102 := n5_
          have BK116 := n6_
          have HB := n7_
          clear n0_ n1_ n2_ n3_ n4_ n5_ n6_ n7_
          have p117 : 0 ≤ (a1 : Int) := of_decide_eq_true (by first | (with_reducible assumption) | assumption)
          have q117 : a1 < (t110.length : Int) := of_decide_eq_true (by first | (with_reducible assumption) | assumption)
          obtain ⟨ad117, e117, hx117_0⟩ := Kd.at_int (Kd.R_reads' HO112.out).2.2 a1 p117 q117
          cases e117
          replace p117 := eq_true p117
          replace q117 := eq_true q117
          have p8 : 0 ≤ (a1 : Int) := of_decide_eq_true (by first | (with_reducible assumption) | assumption)
          have q8 : (a1 : Int) < ((t110.length : Int) : Int) := of_decide_eq_true (by first | (with_reducible assumption) | assumption)
          obtain ⟨go8, co8, eo8, gb8, gl8, cl8, HG8⟩ := Kd.R_form HO112.out (by omega)
          (first | cases eo8 | (injection eo8 with ea_ en_ ec_; (first | subst ea_ | (injection ea_ with ea_; subst ea_)); subst ec_; clear en_))
          have GB8 := Aside0.mk gb8
          have GG8 := Aside0.mk HG8
          clear gb8 gl8 HG8
          (first | simp only [add_plain] at hx117_0 | skip)
          obtain ⟨hx8_0, hf8_0⟩ := Kd.R_celln 0 HO112.out (a1 : Int) p8 q8
          replace p8 := eq_true p8
          replace q8 := eq_true q8
          have HP30 := Kd.R_putn HO112.out (a1 : Int) (wrap64 (1 - (rd t110 a1)))
          rw [← Ny118.out] at HP30
          have HQ30 := Aside0.mk HP30
          clear HP30
          refine start_ (n := 11) (S := fun w' => w'.cell? ⟨gb116, 0, none⟩ = some (.slice Ao22 t107.length co22) ∧ w'.cell? ⟨gb116, 1, none⟩ = some (.slice (some ⟨go8, 0, none⟩) t110.length co26) ∧ w'.cell? ⟨gb116, 2, none⟩ = some (.slice Ao27 t113.length co27) ∧ w'.cell? ⟨go8, (a1).toNat, none⟩ = some (.int .i64 (rd t110 a1))) (ds := [10]) #[false, false, false, false, false, false, false, false, false, false, false] (by kernel_rfl) rfl rfl ⟨(blk_cell BK116.out 0).trans rfl, (blk_cell BK116.out 1).trans rfl, (blk_cell BK116.out 2).trans rfl, hx117_0⟩ (fun hHeld => ?_); refine with_tabW spec_SwitchChord.tab5 spec_SwitchChord.bits5 (fun HT_ HW_ => ?_)
          generalize w28.drew = w29 at HO105 HO109 HO112 HO115 BK101 BK102 BK116 HB GG8 HQ30 hf8_0 hx117_0 hx8_0 hHeld ⊢
          refine pure_ (i := 0) (N := some 18) (v := ?_) (a' := ?_) #[true, false, false, false, false, false, false, false, false, false, false] rfl rfl (any_of HT_.out (by kernel_rfl)) (fun _ _ _ h => h) (Or.inl ⟨by rfl, ?_⟩) ?_ ?_
          rotate_left
          · intro w'
            go_simp
            with_reducible rfl
          rotate_left
          · simp only [Act.put, List.setIfInBounds_toArray, List.set_cons_zero, List.set_cons_succ, i64_w, i32_w]
            rfl
          refine pure_ (i := 2) (N := some 20) (v := ?_) (a' := ?_) #[true, false, true, false, false, false, false, false, false, false, false] rfl rfl (any_of HT_.out (by kernel_rfl)) (fun _ _ _ h => h) (Or.inl ⟨by rfl, ?_⟩) ?_ ?_
          rotate_left
          · intro w'
            go_simp
            with_reducible rfl
          rotate_left
          · simp only [Act.put, List.setIfInBounds_toArray, List.set_cons_zero, List.set_cons_succ, i64_w, i32_w]
            rfl
          refine pure_ (i := 3) (N := some 21) (v := ?_) (a' := ?_) #[true, false, true, true, false, false, false, false, false, false, false] rfl rfl (any_of HT_.out (by kernel_rfl)) (fun _ _ _ h => h) (Or.inl ⟨by rfl, ?_⟩) ?_ ?_
          rotate_left
          · intro w'
            go_simp
            with_reducible rfl
          rotate_left
          · simp only [Act.put, List.setIfInBounds_toArray, List.set_cons_zero, List.set_cons_succ, i64_w, i32_w]
            rfl
          refine pure_ (i := 5) (N := some 23) (v := ?_) (a' := ?_) #[true, false, true, true, false, true, false, false, false, false, false] rfl rfl (any_of HT_.out (by kernel_rfl)) (fun _ _ _ h => h) (Or.inl ⟨by rfl, ?_⟩) ?_ ?_
          rotate_left
          · intro w'
            go_simp
            with_reducible rfl
          rotate_left
          · simp only [Act.put, List.setIfInBounds_toArray, List.set_cons_zero, List.set_cons_succ, i64_w, i32_w]
            rfl
          refine take_ (i := 1) (N := some 19) (v := ?_) (a' := ?_) #[true, true, true, true, false, true, false, false, false, false, false] rfl rfl (take_ofW HT_.out HW_.out (by kernel_rfl)) (fun _ _ _ h => h) (Or.inl ⟨by rfl, ?_⟩) hHeld ?_ ?_
          rotate_left
          · rintro w' ⟨s0, s1, s2, s3⟩
            go_simp
            with_reducible rfl
          rotate_left
          · simp only [Act.put, List.setIfInBounds_toArray, List.set_cons_zero, List.set_cons_succ, i64_w, i32_w]
            rfl
          refine take_ (i := 4) (N := some 22) (v := ?_) (a' := ?_) #[true, true, true, true, true, true, false, false, false, false, false] rfl rfl (take_ofW HT_.out HW_.out (by kernel_rfl)) (fun _ _ _ h => h) (Or.inl ⟨by rfl, ?_⟩) hHeld ?_ ?_
          rotate_left
          · rintro w' ⟨s0, s1, s2, s3⟩
            go_simp
            with_reducible rfl
          rotate_left
          · simp only [Act.put, List.setIfInBounds_toArray, List.set_cons_zero, List.set_cons_succ, i64_w, i32_w]
            rfl
          refine pure_ (i := 6) (N := some 24) (v := ?_) (a' := ?_) #[true, true, true, true, true, true, true, false, false, false, false] rfl rfl (any_of HT_.out (by kernel_rfl)) (fun _ _ _ h => h) (Or.inl ⟨by rfl, ?_⟩) ?_ ?_
          rotate_left
          · intro w'
            go_simp
            with_reducible rfl
          rotate_left
          · simp only [Act.put, List.setIfInBounds_toArray, List.set_cons_zero, List.set_cons_succ, i64_w, i32_w]
            rfl
          refine take_ (i := 7) (N := some 25) (v := ?_) (a' := ?_) #[true, true, true, true, true, true, true, true, false, false, false] rfl rfl (take_ofW HT_.out HW_.out (by kernel_rfl)) (fun _ _ _ h => h) (Or.inl ⟨by rfl, ?_⟩) hHeld ?_ ?_
          rotate_left
          · rintro w' ⟨s0, s1, s2, s3⟩
            go_simp
            with_reducible rfl
          rotate_left
          · simp only [Act.put, List.setIfInBounds_toArray, List.set_cons_zero, List.set_cons_succ, i64_w, i32_w]
            rfl
          refine pure_ (i := 8) (N := some 26) (v := ?_) (a' := ?_) #[true, true, true, true, true, true, true, true, true, false, false] rfl rfl (any_of HT_.out (by kernel_rfl)) (fun _ _ _ h => h) (Or.inl ⟨by rfl, ?_⟩) ?_ ?_
          rotate_left
          · intro w'
            go_simp
            with_reducible rfl
          rotate_left
          · simp only [Act.put, List.setIfInBounds_toArray, List.set_cons_zero, List.set_cons_succ, i64_w, i32_w]
            rfl
          refine pure_ (i := 9) (N := some 27) (v := ?_) (a' := ?_) #[true, true, true, true, true, true, true, true, true, true, false] rfl rfl (any_of HT_.out (by kernel_rfl)) (fun _ _ _ h => h) (Or.inl ⟨by rfl, ?_⟩) ?_ ?_
          rotate_left
          · intro w'
            go_simp
            with_reducible rfl
          rotate_left
          · simp only [Act.put, List.setIfInBounds_toArray, List.set_cons_zero, List.set_cons_succ, i64_w, i32_w]
            rfl
          refine last_ (i := 10) (N := none) #[true, true, true, true, true, true, true, true, true, true, true] rfl rfl (one_of HT_.out (by kernel_rfl)) (by decide) (fun K hK => ?_)
          refine skip_ (w1 := ?_) (by rfl) rfl ?_ ?_
          rotate_left
          · go_simp
            rfl
          refine hK.out _ _ ?_
          clear hK K
          refine done_ (done_of HT_.out (by kernel_rfl)) ?_
          have n0_ : Aside0 (Kd.R (Kd.int .i64) 2 (w29.setCell ⟨go8, (a1 : Int).toNat, none⟩ (.int .i64 (wrap64 (1 - (rd t110 a1))))) w.heap.size (fun k_ => some k_ ≠ (.slice Ao22 t107.length co22 : Value).ownBlock ∧ some k_ ≠ (.slice (some ⟨go8, 0, none⟩) t110.length co26 : Value).ownBlock ∧ some k_ ≠ (.slice Ao27 t113.length co27 : Value).ownBlock) (.slice Ao17 y103.length co17) y103) := ⟨by (with_reducible repeat (first | apply Kd.R_alloc | apply Kd.R_drewN | apply Kd.R_drew)); exact Kd.R_mono (Kd.R_far (p := ⟨go8, (a1 : Int).toNat, none⟩) (Kd.R_mono HO105.out (fun k_ hk => (⟨hk, fun e_ => hk.2.1 (by rw [e_]; rfl)⟩ : _ ∧ k_ ≠ go8))) (fun _ hk => hk.2) (.int .i64 (wrap64 (1 - (rd t110 a1))))) (fun _ hk => ⟨hk.1.1, ⟨hk.1.2.1, hk.1.2.2⟩⟩)⟩
          have n1_ : Aside0 (Kd.R (Kd.int .i64) 2 (w29.setCell ⟨go8, (a1 : Int).toNat, none⟩ (.int .i64 (wrap64 (1 - (rd t110 a1))))) w.heap.size (fun k_ => some k_ ≠ (.slice Ao17 y103.length co17 : Value).ownBlock ∧ some k_ ≠ (.slice (some ⟨go8, 0, none⟩) t110.length co26 : Value).ownBlock ∧ some k_ ≠ (.slice Ao27 t113.length co27 : Value).ownBlock) (.slice Ao22 t107.length co22) t107) := ⟨by (with_reducible repeat (first | apply Kd.R_alloc | apply Kd.R_drewN | apply Kd.R_drew)); exact Kd.R_mono (Kd.R_far (p := ⟨go8, (a1 : Int).toNat, none⟩) (Kd.R_mono HO109.out (fun k_ hk => (⟨hk, fun e_ => hk.2.1 (by rw [e_]; rfl)⟩ : _ ∧ k_ ≠ go8))) (fun _ hk => hk.2) (.int .i64 (wrap64 (1 - (rd t110 a1))))) (fun _ hk => ⟨hk.1.1, ⟨hk.1.2.1, hk.1.2.2⟩⟩)⟩
          have n2_ : Aside0 (Kd.R (Kd.int .i64) 2 (w29.setCell ⟨go8, (a1 : Int).toNat, none⟩ (.int .i64 (wrap64 (1 - (rd t110 a1))))) w.heap.size (fun k_ => some k_ ≠ (.slice Ao17 y103.length co17 : Value).ownBlock ∧ some k_ ≠ (.slice Ao22 t107.length co22 : Value).ownBlock ∧ some k_ ≠ (.slice Ao27 t113.length co27 : Value).ownBlock) (.slice (some ⟨go8, 0, none⟩) t110.length co26) y118) := ⟨by (with_reducible repeat (first | apply Kd.R_alloc | apply Kd.R_drewN | apply Kd.R_drew)); exact HQ30.out⟩
          have n3_ : Aside0 (Kd.R (Kd.int .i64) 2 (w29.setCell ⟨go8, (a1 : Int).toNat, none⟩ (.int .i64 (wrap64 (1 - (rd t110 a1))))) w.heap.size (fun k_ => some k_ ≠ (.slice Ao17 y103.length co17 : Value).ownBlock ∧ some k_ ≠ (.slice Ao22 t107.length co22 : Value).ownBlock ∧ some k_ ≠ (.slice (some ⟨go8, 0, none⟩) t110.length co26 : Value).ownBlock) (.slice Ao27 t113.length co27) t113) := ⟨by (with_reducible repeat (first | apply Kd.R_alloc | apply Kd.R_drewN | apply Kd.R_drew)); exact Kd.R_mono (Kd.R_far (p := ⟨go8, (a1 : Int).toNat, none⟩) (Kd.R_mono HO115.out (fun k_ hk => (⟨hk, fun e_ => hk.2.2 (by rw [e_]; rfl)⟩ : _ ∧ k_ ≠ go8))) (fun _ hk => hk.2) (.int .i64 (wrap64 (1 - (rd t110 a1))))) (fun _ hk => ⟨hk.1.1, ⟨hk.1.2.1, hk.1.2.2⟩⟩)⟩
          have n4_ : Aside0 ((w29.setCell ⟨go8, (a1 : Int).toNat, none⟩ (.int .i64 (wrap64 (1 - (rd t110 a1))))).heap[gb101]? = some (.cells #[.slice A0_0 l0_0.length c0_0, .slice A0_1 l0_1.length c0_1, .slice A0_2 l0_2.length c0_2] 49 (0, 0))) := ⟨by (with_reducible repeat (first | refine blk_drewN ?_ _ | refine blk_drew ?_ | refine blk_alloc ?_ _)); refine blk_far ?_ (by have h_ := Kd.R_ne HO112.out BK101.out (by decide); intro e_; exact h_ (by rw [e_]; rfl)) _; (with_reducible repeat (first | refine blk_drewN ?_ _ | refine blk_drew ?_ | refine blk_alloc ?_ _)); exact BK101.out⟩
          have n5_ : Aside0 ((w29.setCell ⟨go8, (a1 : Int).toNat, none⟩ (.int .i64 (wrap64 (1 - (rd t110 a1))))).heap[gb102]? = some (.cells #[.slice none 0 0, .slice none 0 0, .slice none 0 0] 49 (0, 0))) := ⟨by (with_reducible repeat (first | refine blk_drewN ?_ _ | refine blk_drew ?_ | refine blk_alloc ?_ _)); refine blk_far ?_ (by have h_ := Kd.R_ne HO112.out BK102.out (by decide); intro e_; exact h_ (by rw [e_]; rfl)) _; (with_reducible repeat (first | refine blk_drewN ?_ _ | refine blk_drew ?_ | refine blk_alloc ?_ _)); exact BK102.out⟩
          have n6_ : Aside0 ((w29.setCell ⟨go8, (a1 : Int).toNat, none⟩ (.int .i64 (wrap64 (1 - (rd t110 a1))))).heap[gb116]? = some (.cells #[.slice Ao22 t107.length co22, .slice (some ⟨go8, 0, none⟩) t110.length co26, .slice Ao27 t113.length co27] 49 (0, 0))) := ⟨by (with_reducible repeat (first | refine blk_drewN ?_ _ | refine blk_drew ?_ | refine blk_alloc ?_ _)); refine blk_far ?_ (by have h_ := Kd.R_ne HO112.out BK116.out (by decide); intro e_; exact h_ (by rw [e_]; rfl)) _; (with_reducible repeat (first | refine blk_drewN ?_ _ | refine blk_drew ?_ | refine blk_alloc ?_ _)); exact BK116.out⟩
          have n7_ : Aside0 (Below w.heap.size w (w29.setCell ⟨go8, (a1 : Int).toNat, none⟩ (.int .i64 (wrap64 (1 - (rd t110 a1)))))) := ⟨by repeat (first | (with_reducible first | exact HB.out | apply below_alloc | apply pw_below_drewN | apply below_drew1 | refine below_set ?_ GB8.out | refine below_set ?_ GE101.out | refine below_set ?_ GE102.out | refine below_set ?_ GE116.out) | exact HB.out)⟩
          (try clear HO105)
          (try clear HO109)
          (try clear HO112)
          (try clear HO115)
          (try clear BK101)
          (try clear BK102)
          (try clear BK116)
          (try clear HB)
          generalize (w29.setCell ⟨go8, (a1 : Int).toNat, none⟩ (.int .i64 (wrap64 (1 - (rd t110 a1))))) = w31 at n0_ n1_ n2_ n3_ n4_ n5_ n6_ n7_ ⊢
          have HO105 := n0_
          have HO109 := n1_
          have HO112 := n2_
          have HO115 := n3_
          have BK101 := n4_
          have BK102 := n5_
          have BK116 := n6_
          have HB := n7_
          clear n0_ n1_ n2_ n3_ n4_ n5_ n6_ n7_
          try go_wp2
          have n0_ := Aside0.mk (Kd.R_drew HO105.out)
          have n1_ := Aside0.mk (Kd.R_drew HO109.out)
          have n2_ := Aside0.mk (Kd.R_drew HO112.out)
          have n3_ := Aside0.mk (Kd.R_drew HO115.out)
          have n4_ := Aside0.mk (blk_drew BK101.out)
          have n5_ := Aside0.mk (blk_drew BK102.out)
          have n6_ := Aside0.mk (blk_drew BK116.out)
          have n7_ := Aside0.mk (below_drew1 HB.out)
          clear HO105
          clear HO109
          clear HO112
          clear HO115
          clear BK101
          clear BK102
          clear BK116
          clear HB
          have HO105 := n0_
          have HO109 := n1_
          have HO112 := n2_
          have HO115 := n3_
          have BK101 := n4_
          have BK102 := n5_
          have BK116 := n6_
          have HB := n7_
          clear n0_ n1_ n2_ n3_ n4_ n5_ n6_ n7_
          have p119 : 0 ≤ (a1 : Int) := of_decide_eq_true (by first | (with_reducible assumption) | assumption)
          have q119 : a1 < (t113.length : Int) := of_decide_eq_true (by first | (with_reducible assumption) | assumption)
          obtain ⟨ad119, e119, hx119_0⟩ := Kd.at_int (Kd.R_reads' HO115.out).2.2 a1 p119 q119
          cases e119
          replace p119 := eq_true p119
          replace q119 := eq_true q119
          have p10 : 0 ≤ (a1 : Int) := of_decide_eq_true (by first | (with_reducible assumption) | assumption)
          have q10 : (a1 : Int) < ((t113.length : Int) : Int) := of_decide_eq_true (by first | (with_reducible assumption) | assumption)
          obtain ⟨go10, co10, eo10, gb10, gl10, cl10, HG10⟩ := Kd.R_form HO115.out (by omega)
          (first | cases eo10 | (injection eo10 with ea_ en_ ec_; (first | subst ea_ | (injection ea_ with ea_; subst ea_)); subst ec_; clear en_))
          have GB10 := Aside0.mk gb10
          have GG10 := Aside0.mk HG10
          clear gb10 gl10 HG10
          (first | simp only [add_plain] at hx119_0 | skip)
          obtain ⟨hx10_0, hf10_0⟩ := Kd.R_celln 0 HO115.out (a1 : Int) p10 q10
          replace p10 := eq_true p10
          replace q10 := eq_true q10
          have HP33 := Kd.R_putn HO115.out (a1 : Int) (wrap64 (-(rd t113 a1)))
          rw [← Ny120.out] at HP33
          have HQ33 := Aside0.mk HP33
          clear HP33
          refine start_ (n := 11) (S := fun w' => w'.cell? ⟨gb116, 0, none⟩ = some (.slice Ao22 t107.length co22) ∧ w'.cell? ⟨gb116, 1, none⟩ = some (.slice (some ⟨go8, 0, none⟩) t110.length co26) ∧ w'.cell? ⟨gb116, 2, none⟩ = some (.slice (some ⟨go10, 0, none⟩) t113.length co27) ∧ w'.cell? ⟨go10, (a1).toNat, none⟩ = some (.int .i64 (rd t113 a1))) (ds := [10]) #[false, false, false, false, false, false, false, false, false, false, false] (by kernel_rfl) rfl rfl ⟨(blk_cell BK116.out 0).trans rfl, (blk_cell BK116.out 1).trans rfl, (blk_cell BK116.out 2).trans rfl, hx119_0⟩ (fun hHeld => ?_); refine with_tabW spec_SwitchChord.tab6 spec_SwitchChord.bits6 (fun HT_ HW_ => ?_)
          generalize w31.drew = w32 at HO105 HO109 HO112 HO115 BK101 BK102 BK116 HB GG10 HQ33 hf10_0 hx10_0 hx119_0 hHeld ⊢
          refine pure_ (i := 0) (N := some 28) (v := ?_) (a' := ?_) #[true, false, false, false, false, false, false, false, false, false, false] rfl rfl (any_of HT_.out (by kernel_rfl)) (fun _ _ _ h => h) (Or.inl ⟨by rfl, ?_⟩) ?_ ?_
          rotate_left
          · intro w'
            go_simp
            with_reducible rfl
          rotate_left
          · simp only [Act.put, List.setIfInBounds_toArray, List.set_cons_zero, List.set_cons_succ, i64_w, i32_w]
            rfl
          refine pure_ (i := 2) (N := some 30) (v := ?_) (a' := ?_) #[true, false, true, false, false, false, false, false, false, false, false] rfl rfl (any_of HT_.out (by kernel_rfl)) (fun _ _ _ h => h) (Or.inl ⟨by rfl, ?_⟩) ?_ ?_
          rotate_left
          · intro w'
            go_simp
            with_reducible rfl
          rotate_left
          · simp only [Act.put, List.setIfInBounds_toArray, List.set_cons_zero, List.set_cons_succ, i64_w, i32_w]
            rfl
          refine pure_ (i := 3) (N := some 31) (v := ?_) (a' := ?_) #[true, false, true, true, false, false, false, false, false, false, false] rfl rfl (any_of HT_.out (by kernel_rfl)) (fun _ _ _ h => h) (Or.inl ⟨by rfl, ?_⟩) ?_ ?_
          rotate_left
          · intro w'
            go_simp
            with_reducible rfl
          rotate_left
          · simp only [Act.put, List.setIfInBounds_toArray, List.set_cons_zero, List.set_cons_succ, i64_w, i32_w]
            rfl
          refine pure_ (i := 5) (N := some 33) (v := ?_) (a' := ?_) #[true, false, true, true, false, true, false, false, false, false, false] rfl rfl (any_of HT_.out (by kernel_rfl)) (fun _ _ _ h => h) (Or.inl ⟨by rfl, ?_⟩) ?_ ?_
          rotate_left
          · intro w'
            go_simp
            with_reducible rfl
          rotate_left
          · simp only [Act.put, List.setIfInBounds_toArray, List.set_cons_zero, List.set_cons_succ, i64_w, i32_w]
            rfl
          refine take_ (i := 1) (N := some 29) (v := ?_) (a' := ?_) #[true, true, true, true, false, true, false, false, false, false, false] rfl rfl (take_ofW HT_.out HW_.out (by kernel_rfl)) (fun _ _ _ h => h) (Or.inl ⟨by rfl, ?_⟩) hHeld ?_ ?_
          rotate_left
          · rintro w' ⟨s0, s1, s2, s3⟩
            go_simp
            with_reducible rfl
          rotate_left
          · simp only [Act.put, List.setIfInBounds_toArray, List.set_cons_zero, List.set_cons_succ, i64_w, i32_w]
            rfl
          refine take_ (i := 4) (N := some 32) (v := ?_) (a' := ?_) #[true, true, true, true, true, true, false, false, false, false, false] rfl rfl (take_ofW HT_.out HW_.out (by kernel_rfl)) (fun _ _ _ h => h) (Or.inl ⟨by rfl, ?_⟩) hHeld ?_ ?_
          rotate_left
          · rintro w' ⟨s0, s1, s2, s3⟩
            go_simp
            with_reducible rfl
          rotate_left
          · simp only [Act.put, List.setIfInBounds_toArray, List.set_cons_zero, List.set_cons_succ, i64_w, i32_w]
            rfl
          refine pure_ (i := 6) (N := some 34) (v := ?_) (a' := ?_) #[true, true, true, true, true, true, true, false, false, false, false] rfl rfl (any_of HT_.out (by kernel_rfl)) (fun _ _ _ h => h) (Or.inl ⟨by rfl, ?_⟩) ?_ ?_
          rotate_left
          · intro w'
            go_simp
            with_reducible rfl
          rotate_left
          · simp only [Act.put, List.setIfInBounds_toArray, List.set_cons_zero, List.set_cons_succ, i64_w, i32_w]
            rfl
          refine take_ (i := 7) (N := some 35) (v := ?_) (a' := ?_) #[true, true, true, true, true, true, true, true, false, false, false] rfl rfl (take_ofW HT_.out HW_.out (by kernel_rfl)) (fun _ _ _ h => h) (Or.inl ⟨by rfl, ?_⟩) hHeld ?_ ?_
          rotate_left
          · rintro w' ⟨s0, s1, s2, s3⟩
            go_simp
            with_reducible rfl
          rotate_left
          · simp only [Act.put, List.setIfInBounds_toArray, List.set_cons_zero, List.set_cons_succ, i64_w, i32_w]
            rfl
          refine pure_ (i := 8) (N := some 36) (v := ?_) (a' := ?_) #[true, true, true, true, true, true, true, true, true, false, false] rfl rfl (any_of HT_.out (by kernel_rfl)) (fun _ _ _ h => h) (Or.inl ⟨by rfl, ?_⟩) ?_ ?_
          rotate_left
          · intro w'
            go_simp
            with_reducible rfl
          rotate_left
          · simp only [Act.put, List.setIfInBounds_toArray, List.set_cons_zero, List.set_cons_succ, i64_w, i32_w]
            rfl
          refine pure_ (i := 9) (N := some 37) (v := ?_) (a' := ?_) #[true, true, true, true, true, true, true, true, true, true, false] rfl rfl (any_of HT_.out (by kernel_rfl)) (fun _ _ _ h => h) (Or.inl ⟨by rfl, ?_⟩) ?_ ?_
          rotate_left
          · intro w'
            go_simp
            with_reducible rfl
          rotate_left
          · simp only [Act.put, List.setIfInBounds_toArray, List.set_cons_zero, List.set_cons_succ, i64_w, i32_w]
            rfl
          refine last_ (i := 10) (N := none) #[true, true, true, true, true, true, true, true, true, true, true] rfl rfl (one_of HT_.out (by kernel_rfl)) (by decide) (fun K hK => ?_)
          refine skip_ (w1 := ?_) (by rfl) rfl ?_ ?_
          rotate_left
          · go_simp
            rfl
          refine hK.out _ _ ?_
          clear hK K
          refine done_ (done_of HT_.out (by kernel_rfl)) ?_
          have n0_ : Aside0 (Kd.R (Kd.int .i64) 2 (w32.setCell ⟨go10, (a1 : Int).toNat, none⟩ (.int .i64 (wrap64 (-(rd t113 a1))))) w.heap.size (fun k_ => some k_ ≠ (.slice Ao22 t107.length co22 : Value).ownBlock ∧ some k_ ≠ (.slice (some ⟨go8, 0, none⟩) t110.length co26 : Value).ownBlock ∧ some k_ ≠ (.slice (some ⟨go10, 0, none⟩) t113.length co27 : Value).ownBlock) (.slice Ao17 y103.length co17) y103) := ⟨by (with_reducible repeat (first | apply Kd.R_alloc | apply Kd.R_drewN | apply Kd.R_drew)); exact Kd.R_mono (Kd.R_far (p := ⟨go10, (a1 : Int).toNat, none⟩) (Kd.R_mono HO105.out (fun k_ hk => (⟨hk, fun e_ => hk.2.2 (by rw [e_]; rfl)⟩ : _ ∧ k_ ≠ go10))) (fun _ hk => hk.2) (.int .i64 (wrap64 (-(rd t113 a1))))) (fun _ hk => ⟨hk.1.1, ⟨hk.1.2.1, hk.1.2.2⟩⟩)⟩
          have n1_ : Aside0 (Kd.R (Kd.int .i64) 2 (w32.setCell ⟨go10, (a1 : Int).toNat, none⟩ (.int .i64 (wrap64 (-(rd t113 a1))))) w.heap.size (fun k_ => some k_ ≠ (.slice Ao17 y103.length co17 : Value).ownBlock ∧ some k_ ≠ (.slice (some ⟨go8, 0, none⟩) t110.length co26 : Value).ownBlock ∧ some k_ ≠ (.slice (some ⟨go10, 0, none⟩) t113.length co27 : Value).ownBlock) (.slice Ao22 t107.length co22) t107) := ⟨by (with_reducible repeat (first | apply Kd.R_alloc | apply Kd.R_drewN | apply Kd.R_drew)); exact Kd.R_mono (Kd.R_far (p := ⟨go10, (a1 : Int).toNat, none⟩) (Kd.R_mono HO109.out (fun k_ hk => (⟨hk, fun e_ => hk.2.2 (by rw [e_]; rfl)⟩ : _ ∧ k_ ≠ go10))) (fun _ hk => hk.2) (.int .i64 (wrap64 (-(rd t113 a1))))) (fun _ hk => ⟨hk.1.1, ⟨hk.1.2.1, hk.1.2.2⟩⟩)⟩
          have n2_ : Aside0 (Kd.R (Kd.int .i64) 2 (w32.setCell ⟨go10, (a1 : Int).toNat, none⟩ (.int .i64 (wrap64 (-(rd t113 a1))))) w.heap.size (fun k_ => some k_ ≠ (.slice Ao17 y103.length co17 : Value).ownBlock ∧ some k_ ≠ (.slice Ao22 t107.length co22 : Value).ownBlock ∧ some k_ ≠ (.slice (some ⟨go10, 0, none⟩) t113.length co27 : Value).ownBlock) (.slice (some ⟨go8, 0, none⟩) t110.length co26) y118) := ⟨by (with_reducible repeat (first | apply Kd.R_alloc | apply Kd.R_drewN | apply Kd.R_drew)); exact Kd.R_mono (Kd.R_far (p := ⟨go10, (a1 : Int).toNat, none⟩) (Kd.R_mono HO112.out (fun k_ hk => (⟨hk, fun e_ => hk.2.2 (by rw [e_]; rfl)⟩ : _ ∧ k_ ≠ go10))) (fun _ hk => hk.2) (.int .i64 (wrap64 (-(rd t113 a1))))) (fun _ hk => ⟨hk.1.1, ⟨hk.1.2.1, hk.1.2.2⟩⟩)⟩
          have n3_ : Aside0 (Kd.R (Kd.int .i64) 2 (w32.setCell ⟨go10, (a1 : Int).toNat, none⟩ (.int .i64 (wrap64 (-(rd t113 a1))))) w.heap.size (fun k_ => some k_ ≠ (.slice Ao17 y103.length co17 : Value).ownBlock ∧ some k_ ≠ (.slice Ao22 t107.length co22 : Value).ownBlock ∧ some k_ ≠ (.slice (some ⟨go8, 0, none⟩) t110.length co26 : Value).ownBlock) (.slice (some ⟨go10, 0, none⟩) t113.length co27) y120) := ⟨by (with_reducible repeat (first | apply Kd.R_alloc | apply Kd.R_drewN | apply Kd.R_drew)); exact HQ33.out⟩
          have n4_ : Aside0 ((w32.setCell ⟨go10, (a1 : Int).toNat, none⟩ (.int .i64 (wrap64 (-(rd t113 a1))))).heap[gb101]? = some (.cells #[.slice A0_0 l0_0.length c0_0, .slice A0_1 l0_1.length c0_1, .slice A0_2 l0_2.length c0_2] 49 (0, 0))) := ⟨by (with_reducible repeat (first | refine blk_drewN ?_ _ | refine blk_drew ?_ | refine blk_alloc ?_ _)); refine blk_far ?_ (by have h_ := Kd.R_ne HO115.out BK101.out (by decide); intro e_; exact h_ (by rw [e_]; rfl)) _; (with_reducible repeat (first | refine blk_drewN ?_ _ | refine blk_drew ?_ | refine blk_alloc ?_ _)); exact BK101.out⟩
          have n5_ : Aside0 ((w32.setCell ⟨go10, (a1 : Int).toNat, none⟩ (.int .i64 (wrap64 (-(rd t113 a1))))).heap[gb102]? = some (.cells #[.slice none 0 0, .slice none 0 0, .slice none 0 0] 49 (0, 0))) := ⟨by (with_reducible repeat (first | refine blk_drewN ?_ _ | refine blk_drew ?_ | refine blk_alloc ?_ _)); refine blk_far ?_ (by have h_ := Kd.R_ne HO115.out BK102.out (by decide); intro e_; exact h_ (by rw [e_]; rfl)) _; (with_reducible repeat (first | refine blk_drewN ?_ _ | refine blk_drew ?_ | refine blk_alloc ?_ _)); exact BK102.out⟩
          have n6_ : Aside0 ((w32.setCell ⟨go10, (a1 : Int).toNat, none⟩ (.int .i64 (wrap64 (-(rd t113 a1))))).heap[gb116]? = some (.cells #[.slice Ao22 t107.length co22, .slice (some ⟨go8, 0, none⟩) t110.length co26, .slice (some ⟨go10, 0, none⟩) t113.length co27] 49 (0, 0))) := ⟨by (with_reducible repeat (first | refine blk_drewN ?_ _ | refine blk_drew ?_ | refine blk_alloc ?_ _)); refine blk_far ?_ (by have h_ := Kd.R_ne HO115.out BK116.out (by decide); intro e_; exact h_ (by rw [e_]; rfl)) _; (with_reducible repeat (first | refine blk_drewN ?_ _ | refine blk_drew ?_ | refine blk_alloc ?_ _)); exact BK116.out⟩
          have n7_ : Aside0 (Below w.heap.size w (w32.setCell ⟨go10, (a1 : Int).toNat, none⟩ (.int .i64 (wrap64 (-(rd t113 a1)))))) := ⟨by repeat (first | (with_reducible first | exact HB.out | apply below_alloc | apply pw_below_drewN | apply below_drew1 | refine below_set ?_ GB10.out | refine below_set ?_ GE101.out | refine below_set ?_ GE102.out | refine below_set ?_ GE116.out) | exact HB.out)⟩
          (try clear HO105)
          (try clear HO109)
          (try clear HO112)
          (try clear HO115)
          (try clear BK101)
          (try clear BK102)
          (try clear BK116)
          (try clear HB)
          generalize (w32.setCell ⟨go10, (a1 : Int).toNat, none⟩ (.int .i64 (wrap64 (-(rd t113 a1))))) = w34 at n0_ n1_ n2_ n3_ n4_ n5_ n6_ n7_ ⊢
          have HO105 := n0_
          have HO109 := n1_
          have HO112 := n2_
          have HO115 := n3_
          have BK101 := n4_
          have BK102 := n5_
          have BK116 := n6_
          have HB := n7_
          clear n0_ n1_ n2_ n3_ n4_ n5_ n6_ n7_
          have hcz35_0 : w34.cell? ⟨gb116, 0, none⟩ = some (.slice Ao22 t107.length co22) := (blk_cell BK116.out 0).trans rfl
          have hcz35_1 : w34.cell? ⟨gb116, 1, none⟩ = some (.slice (some ⟨go8, 0, none⟩) t110.length co26) := (blk_cell BK116.out 1).trans rfl
          have hcz35_2 : w34.cell? ⟨gb116, 2, none⟩ = some (.slice (some ⟨go10, 0, none⟩) t113.length co27) := (blk_cell BK116.out 2).trans rfl
          have hfz35_0 := blk_frozen BK116.out 0
          have hfz35_1 := blk_frozen BK116.out 1
          have hfz35_2 := blk_frozen BK116.out 2
          have hcz36_0 : w34.cell? ⟨gb102, 0, none⟩ = some (.slice none 0 0) := (blk_cell BK102.out 0).trans rfl
          have hcz36_1 : w34.cell? ⟨gb102, 1, none⟩ = some (.slice none 0 0) := (blk_cell BK102.out 1).trans rfl
          have hcz36_2 : w34.cell? ⟨gb102, 2, none⟩ = some (.slice none 0 0) := (blk_cell BK102.out 2).trans rfl
          have hfz36_0 := blk_frozen BK102.out 0
          have hfz36_1 := blk_frozen BK102.out 1
          have hfz36_2 := blk_frozen BK102.out 2
          try go_wp2
          refine bodyPost_ret (results_ct rfl _ _ gb102 49 #[.slice Ao22 t107.length co22, .slice (some ⟨go8, 0, none⟩) t110.length co26, .slice (some ⟨go10, 0, none⟩) t113.length co27] (0, 0) _ rfl (by (with_reducible repeat (first | refine blk_drewN ?_ _ | refine blk_drew ?_ | refine blk_alloc ?_ _)); refine blk_put (cs := #[.slice Ao22 t107.length co22, .slice (some ⟨go8, 0, none⟩) t110.length co26, .slice none 0 0]) ?_ 2 _ rfl; (with_reducible repeat (first | refine blk_drewN ?_ _ | refine blk_drew ?_ | refine blk_alloc ?_ _)); refine blk_put (cs := #[.slice Ao22 t107.length co22, .slice none 0 0, .slice none 0 0]) ?_ 1 _ rfl; (with_reducible repeat (first | refine blk_drewN ?_ _ | refine blk_drew ?_ | refine blk_alloc ?_ _)); refine blk_put (cs := #[.slice none 0 0, .slice none 0 0, .slice none 0 0]) ?_ 0 _ rfl; (with_reducible repeat (first | refine blk_drewN ?_ _ | refine blk_drew ?_ | refine blk_alloc ?_ _)); exact BK102.out) Try.underlying49 rfl (by kernel_rfl)) rfl ?_
          exact ⟨_, _, _, by first | rfl | (simp [errW_none, errW_some] <;> rfl) | (simp [*, errW_none, errW_some] <;> rfl), by (with_reducible repeat (first | apply Kd.R_alloc | apply Kd.R_drewN | apply Kd.R_drew)); exact Kd.R_mono (Kd.R_far (p := ⟨gb102, 2, none⟩) (Kd.R_far (p := ⟨gb102, 1, none⟩) (Kd.R_far (p := ⟨gb102, 0, none⟩) (Kd.R_types HO109.out BK102.out (by decide)) (fun _ hk => hk.2) (.slice Ao22 t107.length co22)) (fun _ hk => hk.2) (.slice (some ⟨go8, 0, none⟩) t110.length co26)) (fun _ hk => hk.2) (.slice (some ⟨go10, 0, none⟩) t113.length co27)) (fun _ hk => ⟨hk.1.2.1, hk.1.2.2⟩), by (with_reducible repeat (first | apply Kd.R_alloc | apply Kd.R_drewN | apply Kd.R_drew)); exact Kd.R_mono (Kd.R_far (p := ⟨gb102, 2, none⟩) (Kd.R_far (p := ⟨gb102, 1, none⟩) (Kd.R_far (p := ⟨gb102, 0, none⟩) (Kd.R_types HO112.out BK102.out (by decide)) (fun _ hk => hk.2) (.slice Ao22 t107.length co22)) (fun _ hk => hk.2) (.slice (some ⟨go8, 0, none⟩) t110.length co26)) (fun _ hk => hk.2) (.slice (some ⟨go10, 0, none⟩) t113.length co27)) (fun _ hk => ⟨hk.1.2.1, hk.1.2.2⟩), by (with_reducible repeat (first | apply Kd.R_alloc | apply Kd.R_drewN | apply Kd.R_drew)); exact Kd.R_mono (Kd.R_far (p := ⟨gb102, 2, none⟩) (Kd.R_far (p := ⟨gb102, 1, none⟩) (Kd.R_far (p := ⟨gb102, 0, none⟩) (Kd.R_types HO115.out BK102.out (by decide)) (fun _ hk => hk.2) (.slice Ao22 t107.length co22)) (fun _ hk => hk.2) (.slice (some ⟨go8, 0, none⟩) t110.length co26)) (fun _ hk => hk.2) (.slice (some ⟨go10, 0, none⟩) t113.length co27)) (fun _ hk => ⟨hk.1.2.1, hk.1.2.2⟩), by repeat (first | (with_reducible first | exact HB.out | apply below_alloc | apply pw_below_drewN | apply below_drew1 | refine below_set ?_ GE101.out | refine below_set ?_ GE102.out | refine below_set ?_ GE116.out) | exact HB.out)⟩
        · rw [if_neg c9] at H
          exact absurd H (by simp)
      · rw [if_neg c7] at H
        exact absurd H (by simp)
    · rw [if_neg c6] at H
      exact absurd H (by simp)
  · rw [if_neg c4] at H
    have c4b0 : (t106 == 0) = false := beq_eq_false_iff_ne.mpr c4
    have c4b1 : (t106 != 0) = true := bne_iff_ne.mpr c4
    simp only [Option.some.injEq, Prod.mk.injEq] at H
    obtain ⟨rfl, rfl, rfl, rfl⟩ := H
    go_enter Try.func73, Try.ntmps73
    go_wp2_with (first | ((with_reducible refine gate_dst (N := 2) rfl ?_); refine box_event ?hg (N := 2) ?hd (cs := #[.slice A0_0 l0_0.length c0_0, .slice A0_1 l0_1.length c0_1, .slice A0_2 l0_2.length c0_2]) (t := 49) ?hr ?_; (case hd => rfl); (case hg => rfl); (case hr => first | (go_simp; done) | (go_simp; rfl)); intro gb101 hg w37 hbox hb; have n0_ := Aside0.mk (below_step (by repeat (first | (with_reducible first | exact HB.out | apply below_alloc | apply pw_below_drewN | apply below_drew1) | exact HB.out)) hb); have n1_ := Aside0.mk (hbox); have n2_ := Aside0.mk ((by rw [hg]; exact (below_size (by repeat (first | (with_reducible first | exact HB.out | apply below_alloc | apply pw_below_drewN | apply below_drew1) | exact HB.out))) : w.heap.size ≤ gb101)); have n3_ := Aside0.mk ((by rw [hg]; exact (below_size (by repeat (first | (with_reducible first | exact HB.out | apply below_alloc | apply pw_below_drewN | apply below_drew1) | exact HB.out))) : w.heap.size ≤ gb101)); clear HB; have HB := n0_; have BK101 := n1_; have GW101 := n2_; have GE101 := n3_; clear n0_ n1_ n2_ n3_; clear hb hbox hg) | ((with_reducible refine gate_dst (N := 4) rfl ?_); refine box_event ?hg (N := 4) ?hd (cs := #[.slice none 0 0, .slice none 0 0, .slice none 0 0]) (t := 49) ?hr ?_; (case hd => rfl); (case hg => rfl); (case hr => first | (go_simp; done) | (go_simp; rfl)); intro gb102 hg w38 hbox hb; have n0_ := Aside0.mk (blk_below (g := gb101) (o := .cells #[.slice A0_0 l0_0.length c0_0, .slice A0_1 l0_1.length c0_1, .slice A0_2 l0_2.length c0_2] 49 (0, 0)) (by (with_reducible repeat (first | refine blk_drewN ?_ _ | refine blk_drew ?_ | refine blk_alloc ?_ _)); exact BK101.out) hb); have n1_ := Aside0.mk (below_step (by repeat (first | (with_reducible first | exact HB.out | apply below_alloc | apply pw_below_drewN | apply below_drew1 | refine below_set ?_ GE101.out) | exact HB.out)) hb); have n2_ := Aside0.mk (hbox); have n3_ := Aside0.mk ((by rw [hg]; exact (below_size (by repeat (first | (with_reducible first | exact HB.out | apply below_alloc | apply pw_below_drewN | apply below_drew1 | refine below_set ?_ GE101.out) | exact HB.out))) : w.heap.size ≤ gb102)); have n4_ := Aside0.mk ((by rw [hg]; exact (below_size (by repeat (first | (with_reducible first | exact HB.out | apply below_alloc | apply pw_below_drewN | apply below_drew1 | refine below_set ?_ GE101.out) | exact HB.out))) : w.heap.size ≤ gb102)); have n5_ := Aside0.mk ((by rw [hg]; exact Nat.ne_of_lt (blk_lt (g := gb101) (o := .cells #[.slice A0_0 l0_0.length c0_0, .slice A0_1 l0_1.length c0_1, .slice A0_2 l0_2.length c0_2] 49 (0, 0)) (by (with_reducible repeat (first | refine blk_drewN ?_ _ | refine blk_drew ?_ | refine blk_alloc ?_ _)); exact BK101.out)) : gb101 ≠ gb102)); have n6_ := Aside0.mk ((by rw [hg]; exact Nat.ne_of_gt (blk_lt (g := gb101) (o := .cells #[.slice A0_0 l0_0.length c0_0, .slice A0_1 l0_1.length c0_1, .slice A0_2 l0_2.length c0_2] 49 (0, 0)) (by (with_reducible repeat (first | refine blk_drewN ?_ _ | refine blk_drew ?_ | refine blk_alloc ?_ _)); exact BK101.out)) : gb102 ≠ gb101)); clear BK101; clear HB; have BK101 := n0_; have HB := n1_; have BK102 := n2_; have GW102 := n3_; have GE102 := n4_; have NB101_102 := n5_; have NB102_101 := n6_; clear n0_ n1_ n2_ n3_ n4_ n5_ n6_; clear hb hbox hg; have hnb39 := NB101_102.out; have hnc39 := NB102_101.out; have hcz40_0 : w38.cell? ⟨gb101, 0, none⟩ = some (.slice A0_0 l0_0.length c0_0) := (blk_cell BK101.out 0).trans rfl; have hcz40_1 : w38.cell? ⟨gb101, 1, none⟩ = some (.slice A0_1 l0_1.length c0_1) := (blk_cell BK101.out 1).trans rfl; have hcz40_2 : w38.cell? ⟨gb101, 2, none⟩ = some (.slice A0_2 l0_2.length c0_2) := (blk_cell BK101.out 2).trans rfl; have hfz40_0 := blk_frozen BK101.out 0; have hfz40_1 := blk_frozen BK101.out 1; have hfz40_2 := blk_frozen BK101.out 2) | ((with_reducible refine gate_dst (N := 10) rfl ?_); refine Kd.R_lit (Kd.int .i64) _ 2 ?hg (N := 10) ?hd (xs := ([a1] : List Int)) (inner := [.int .i64 a1]) (ok := fun _ => True) (okp := fun _ => True) ?hr ?hp (fun _ hk => hk) trivial (Below.refl _ _) (Nat.le_refl _) (by simp) ?_; (case hd => rfl); (case hg => rfl); (case hr => first | (go_simp; done) | (go_simp; rfl)); (case hp => exact (Reps.one (show Kd.M (Kd.int .i64) _ _ _ a1 [.int .i64 a1] from rfl) (Reps.none _ _))); intro v104 w41 ho42 hb hg_ hnew_; clear hg_ hnew_; (first | rw [← Ny103.out] at ho42 | (simp only [Int.reduceToNat] at ho42; rw [← Ny103.out] at ho42)); have n0_ := Aside0.mk (Kd.R_lower ho42 (below_size (by repeat (first | (with_reducible first | exact HB.out | apply below_alloc | apply pw_below_drewN | apply below_drew1 | refine below_set ?_ GE101.out | refine below_set ?_ GE102.out) | exact HB.out)))); have n1_ := Aside0.mk (blk_below (g := gb101) (o := .cells #[.slice A0_0 l0_0.length c0_0, .slice A0_1 l0_1.length c0_1, .slice A0_2 l0_2.length c0_2] 49 (0, 0)) (by (with_reducible repeat (first | refine blk_drewN ?_ _ | refine blk_drew ?_ | refine blk_alloc ?_ _)); exact BK101.out) hb); have n2_ := Aside0.mk (blk_below (g := gb102) (o := .cells #[.slice none 0 0, .slice none 0 0, .slice none 0 0] 49 (0, 0)) (by (with_reducible repeat (first | refine blk_drewN ?_ _ | refine blk_drew ?_ | refine blk_alloc ?_ _)); exact BK102.out) hb); have n3_ := Aside0.mk (below_step (by repeat (first | (with_reducible first | exact HB.out | apply below_alloc | apply pw_below_drewN | apply below_drew1 | refine below_set ?_ GE101.out | refine below_set ?_ GE102.out) | exact HB.out)) hb); clear BK101; clear BK102; clear HB; have HO105 := n0_; have BK101 := n1_; have BK102 := n2_; have HB := n3_; clear n0_ n1_ n2_ n3_; clear hb ho42; obtain ⟨Ao43, co43, eo43⟩ := Kd.R_slice HO105.out; subst eo43) | ((with_reducible refine gate_callee (f := 133) rfl ?_); refine goesL_ (some 11) rfl rfl Try.func133 (by kernel_rfl) rfl #[.agg #[.slice A0_0 l0_0.length c0_0, .slice A0_1 l0_1.length c0_1, .slice A0_2 l0_2.length c0_2], .slice Ao43 y103.length co43] rfl (by (try simp only [List.map_toArray, List.map_cons, List.map_nil]); first | done | rfl | (simp only [List.length_drop, List.length_take]; rfl)) ?_; (with_reducible refine (spec_l07Chord.calls k _ _ l0_0 _ _ l0_1 _ _ l0_2 _ _ y103 t106 _ ?side1 ?side2 ?side3 ?side4 ?side5 ?side6 ?side7 ?side8 A3.out).mono ?_); (case side1 => repeat (first | exact (Kd.C_below HR0_0.out HB.out) | (with_reducible refine Kd.C_alloc ?_ _) | (with_reducible refine Kd.C_drewN ?_ _) | (with_reducible refine Kd.C_drew ?_))); (case side2 => exact HC0_0.out); (case side3 => repeat (first | exact (Kd.C_below HR0_1.out HB.out) | (with_reducible refine Kd.C_alloc ?_ _) | (with_reducible refine Kd.C_drewN ?_ _) | (with_reducible refine Kd.C_drew ?_))); (case side4 => exact HC0_1.out); (case side5 => repeat (first | exact (Kd.C_below HR0_2.out HB.out) | (with_reducible refine Kd.C_alloc ?_ _) | (with_reducible refine Kd.C_drewN ?_ _) | (with_reducible refine Kd.C_drew ?_))); (case side6 => exact HC0_2.out); (case side7 => repeat (first | exact (Kd.R_reads' HO105.out).2.2 | (with_reducible refine Kd.C_alloc ?_ _) | (with_reducible refine Kd.C_drewN ?_ _) | (with_reducible refine Kd.C_drew ?_))); (case side8 => exact (Kd.R_reads' HO105.out).2.1); rintro e w44 ⟨rfl, hb⟩; refine ⟨_, rfl, ?_⟩; have n0_ := Aside0.mk (Kd.R_below (by (with_reducible repeat (first | apply Kd.R_alloc | apply Kd.R_drewN | apply Kd.R_drew)); exact HO105.out) hb); have n1_ := Aside0.mk (blk_below (g := gb101) (o := .cells #[.slice A0_0 l0_0.length c0_0, .slice A0_1 l0_1.length c0_1, .slice A0_2 l0_2.length c0_2] 49 (0, 0)) (by (with_reducible repeat (first | refine blk_drewN ?_ _ | refine blk_drew ?_ | refine blk_alloc ?_ _)); exact BK101.out) hb); have n2_ := Aside0.mk (blk_below (g := gb102) (o := .cells #[.slice none 0 0, .slice none 0 0, .slice none 0 0] 49 (0, 0)) (by (with_reducible repeat (first | refine blk_drewN ?_ _ | refine blk_drew ?_ | refine blk_alloc ?_ _)); exact BK102.out) hb); have n3_ := Aside0.mk (below_step (by repeat (first | (with_reducible first | exact HB.out | apply below_alloc | apply pw_below_drewN | apply below_drew1 | refine below_set ?_ GE101.out | refine below_set ?_ GE102.out) | exact HB.out)) hb); clear HO105; clear BK101; clear BK102; clear HB; have HO105 := n0_; have BK101 := n1_; have BK102 := n2_; have HB := n3_; clear n0_ n1_ n2_ n3_; (try clear hb); (try clear hb2); (try clear hk); (try clear hi); have hcz45_0 : w44.cell? ⟨gb102, 0, none⟩ = some (.slice none 0 0) := (blk_cell BK102.out 0).trans rfl; have hcz45_1 : w44.cell? ⟨gb102, 1, none⟩ = some (.slice none 0 0) := (blk_cell BK102.out 1).trans rfl; have hcz45_2 : w44.cell? ⟨gb102, 2, none⟩ = some (.slice none 0 0) := (blk_cell BK102.out 2).trans rfl; have hfz45_0 := blk_frozen BK102.out 0; have hfz45_1 := blk_frozen BK102.out 1; have hfz45_2 := blk_frozen BK102.out 2))
    refine bodyPost_ret (results_ct rfl _ _ gb102 49 #[.slice none 0 0, .slice none 0 0, .slice none 0 0] (0, 0) _ rfl (by (with_reducible repeat (first | refine blk_drewN ?_ _ | refine blk_drew ?_ | refine blk_alloc ?_ _)); refine blk_put (cs := #[.slice none 0 0, .slice none 0 0, .slice none 0 0]) ?_ 2 _ rfl; (with_reducible repeat (first | refine blk_drewN ?_ _ | refine blk_drew ?_ | refine blk_alloc ?_ _)); refine blk_put (cs := #[.slice none 0 0, .slice none 0 0, .slice none 0 0]) ?_ 1 _ rfl; (with_reducible repeat (first | refine blk_drewN ?_ _ | refine blk_drew ?_ | refine blk_alloc ?_ _)); refine blk_put (cs := #[.slice none 0 0, .slice none 0 0, .slice none 0 0]) ?_ 0 _ rfl; (with_reducible repeat (first | refine blk_drewN ?_ _ | refine blk_drew ?_ | refine blk_alloc ?_ _)); exact BK102.out) Try.underlying49 rfl (by kernel_rfl)) rfl ?_
    exact ⟨_, _, _, by first | rfl | (simp [errW_none, errW_some] <;> rfl) | (simp [*, errW_none, errW_some] <;> rfl), by first | exact Kd.R_nil _ _ _ _ _ | exact Kd.N_nil _ _ _ _ _ | exact Kd.V_nil _ _ _ _ _ | exact Kd.Q_nil _ _ _ _ _ | exact Kd.S_nil _ _ _ _ _, by first | exact Kd.R_nil _ _ _ _ _ | exact Kd.N_nil _ _ _ _ _ | exact Kd.V_nil _ _ _ _ _ | exact Kd.Q_nil _ _ _ _ _ | exact Kd.S_nil _ _ _ _ _, by first | exact Kd.R_nil _ _ _ _ _ | exact Kd.N_nil _ _ _ _ _ | exact Kd.V_nil _ _ _ _ _ | exact Kd.Q_nil _ _ _ _ _ | exact Kd.S_nil _ _ _ _ _, by repeat (first | (with_reducible first | exact HB.out | apply below_alloc | apply pw_below_drewN | apply below_drew1 | refine below_set ?_ GE101.out | refine below_set ?_ GE102.out) | exact HB.out)⟩

/-! ### impl_SwitchChord: function 74, by hand -/
set_option maxHeartbeats 8000000 in
set_option maxRecDepth 100000 in
theorem impl_SwitchChord_1.calls (b : Nat) (a1 x : Int) (w : World) (hb : w.cell? ⟨b, 0, none⟩ = some (.int .i64 a1)) :
    Calls Try.prog 136 (#[.int .i64 x] ++ #[.pointer (some ⟨b, 0, none⟩)]) w fun e w' => e = .returned (.bool (decide (x = a1))) ∧ ∃ nd, w' = w.drewN nd := by
  show Calls Try.prog 136 #[.int .i64 x, .pointer (some ⟨b, 0, none⟩)] w _
  go_enter Try.func136, Try.ntmps136
  go_wp2
  go_ret
  exact ⟨by by_cases h_ : x = a1 <;> simp [h_], 0, rfl⟩
def impl_SwitchChord.f (k : Nat) (l0_0 : List Int) (l0_1 : List Int) (l0_2 : List Int) (a1 : Int) : Option (List Int × List Int × List Int × Int) :=
  (impl_IsGauss.f k l0_0 l0_1 l0_2).bind fun t1 => if t1 = true then ((impl_isChord.f l0_0 a1).bind fun t2 => if t2 = true then ((impl_switched.f (fun x => some (decide (x = a1))) k l0_0 l0_1 l0_2).bind fun t3 => some (t3.1, t3.2.1, t3.2.2, 0)) else some ([], [], [], 2)) else some ([], [], [], 1)
set_option maxHeartbeats 8000000 in
set_option maxRecDepth 100000 in
theorem impl_SwitchChord.calls (k : Nat) (A0_0 : Option Addr) (c0_0 : Nat) (l0_0 : List Int) (A0_1 : Option Addr) (c0_1 : Nat) (l0_1 : List Int) (A0_2 : Option Addr) (c0_2 : Nat) (l0_2 : List Int) (a1 : Int) (r1 : List Int) (r2 : List Int) (r3 : List Int) (r4 : Int) (w : World) (hr0_0 : Kd.C (Kd.int .i64) w A0_0 l0_0.length l0_0) (hc0_0 : l0_0.length ≤ c0_0) (hr0_1 : Kd.C (Kd.int .i64) w A0_1 l0_1.length l0_1) (hc0_1 : l0_1.length ≤ c0_1) (hr0_2 : Kd.C (Kd.int .i64) w A0_2 l0_2.length l0_2) (hc0_2 : l0_2.length ≤ c0_2) (h : impl_SwitchChord.f k l0_0 l0_1 l0_2 a1 = some (r1, r2, r3, r4)) :
    Calls Try.prog 74 #[.agg #[.slice A0_0 l0_0.length c0_0, .slice A0_1 l0_1.length c0_1, .slice A0_2 l0_2.length c0_2], .int .i64 a1] w fun e w' => ∃ v0_ v1_ v2_ : Value, e = .returned (.tuple #[.agg #[v0_, v1_, v2_], .int .i64 r4]) ∧ Kd.R (Kd.int .i64) 2 w' w.heap.size (fun k_ => some k_ ≠ (v1_ : Value).ownBlock ∧ some k_ ≠ (v2_ : Value).ownBlock) v0_ r1 ∧ Kd.R (Kd.int .i64) 2 w' w.heap.size (fun k_ => some k_ ≠ (v0_ : Value).ownBlock ∧ some k_ ≠ (v2_ : Value).ownBlock) v1_ r2 ∧ Kd.R (Kd.int .i64) 2 w' w.heap.size (fun k_ => some k_ ≠ (v0_ : Value).ownBlock ∧ some k_ ≠ (v1_ : Value).ownBlock) v2_ r3 ∧ Below w.heap.size w w' := by
  have hu49 := Try.underlying49
  have hmf : ∀ (fn : Fn) (first cap : Array Value) (w : World), (Instr.makeFunc fn first cap).run Try.prog w = .ok (.func fn first cap) w := fun _ _ _ _ => rfl
  have HR0_0 := Aside0.mk hr0_0
  have HC0_0 := Aside0.mk hc0_0
  clear hr0_0 hc0_0
  have HR0_1 := Aside0.mk hr0_1
  have HC0_1 := Aside0.mk hc0_1
  clear hr0_1 hc0_1
  have HR0_2 := Aside0.mk hr0_2
  have HC0_2 := Aside0.mk hc0_2
  clear hr0_2 hc0_2
  have HB := Aside0.mk (Below.refl w.heap.size w)
  unfold impl_SwitchChord.f at h
  obtain ⟨t1, h1, h⟩ := Option.bind_eq_some_iff.mp h
  have A1 := Aside0.mk h1
  clear h1
  by_cases c1 : t1 = true
  · subst c1
    rw [if_pos rfl] at h
    obtain ⟨t2, h2, h⟩ := Option.bind_eq_some_iff.mp h
    have A2 := Aside0.mk h2
    clear h2
    by_cases c2 : t2 = true
    · subst c2
      rw [if_pos rfl] at h
      obtain ⟨⟨t31, t32, t33⟩, h3, h⟩ := Option.bind_eq_some_iff.mp h
      have A3 := Aside0.mk h3
      clear h3
      simp only [Option.some.injEq, Prod.mk.injEq] at h
      obtain ⟨rfl, rfl, rfl, rfl⟩ := h
      go_enter Try.func74, Try.ntmps74
      go_wp2_with (first | ((with_reducible refine gate_dst (N := 2) rfl ?_); refine box_event ?hg (N := 2) ?hd (cs := #[.slice A0_0 l0_0.length c0_0, .slice A0_1 l0_1.length c0_1, .slice A0_2 l0_2.length c0_2]) (t := 49) ?hr ?_; (case hd => rfl); (case hg => rfl); (case hr => first | (go_simp; done) | (go_simp; rfl)); intro gb118 hg w5 hbox hb; have ng_ := Aside0.mk ((by rw [hg]; exact (below_size (by repeat (first | (with_reducible first | exact HB.out | apply below_alloc | apply pw_below_drewN | apply below_drew1) | exact HB.out)))) : w.heap.size ≤ gb118); have mb_ := Aside0.mk (below_step (by repeat (first | (with_reducible first | exact HB.out | apply below_alloc | apply pw_below_drewN | apply below_drew1) | exact HB.out)) hb); clear HB; have HB := mb_; clear mb_; have BK118 := Aside0.mk hbox; have GE118 := ng_; clear ng_; clear hb hbox hg) | ((with_reducible refine gate_dst (N := 3) rfl ?_); refine box_event ?hg (N := 3) ?hd (cs := #[.int .i64 a1]) (t := 2) ?hr ?_; (case hd => rfl); (case hg => rfl); (case hr => first | (go_simp; done) | (go_simp; rfl)); intro gb117 hg w6 hbox hb; have ng_ := Aside0.mk ((by rw [hg]; exact (below_size (by repeat (first | (with_reducible first | exact HB.out | apply below_alloc | apply pw_below_drewN | apply below_drew1 | refine below_set ?_ GE118.out) | exact HB.out)))) : w.heap.size ≤ gb117); have nl118_117 := Aside0.mk ((by rw [hg]; exact Nat.ne_of_lt (blk_lt (g := gb118) (o := .cells #[.slice A0_0 l0_0.length c0_0, .slice A0_1 l0_1.length c0_1, .slice A0_2 l0_2.length c0_2] 49 (0, 0)) (by (with_reducible repeat (first | refine blk_drewN ?_ _ | refine blk_drew ?_ | refine blk_alloc ?_ _)); exact BK118.out)) : gb118 ≠ gb117)); have m0_ := Aside0.mk (blk_below (g := gb118) (o := .cells #[.slice A0_0 l0_0.length c0_0, .slice A0_1 l0_1.length c0_1, .slice A0_2 l0_2.length c0_2] 49 (0, 0)) (by (with_reducible repeat (first | refine blk_drewN ?_ _ | refine blk_drew ?_ | refine blk_alloc ?_ _)); exact BK118.out) hb); have mb_ := Aside0.mk (below_step (by repeat (first | (with_reducible first | exact HB.out | apply below_alloc | apply pw_below_drewN | apply below_drew1 | refine below_set ?_ GE118.out) | exact HB.out)) hb); clear BK118; clear HB; have BK118 := m0_; have HB := mb_; clear m0_; clear mb_; have BK117 := Aside0.mk hbox; have GE117 := ng_; clear ng_; clear hb hbox hg; have hne118_117 := nl118_117.out; have hnf118_117 := Ne.symm nl118_117.out) | ((with_reducible refine gate_dst (N := 4) rfl ?_); refine box_event ?hg (N := 4) ?hd (cs := #[.slice none 0 0, .slice none 0 0, .slice none 0 0]) (t := 49) ?hr ?_; (case hd => rfl); (case hg => rfl); (case hr => first | (go_simp; done) | (go_simp; rfl)); intro gb119 hg w7 hbox hb; have ng_ := Aside0.mk ((by rw [hg]; exact (below_size (by repeat (first | (with_reducible first | exact HB.out | apply below_alloc | apply pw_below_drewN | apply below_drew1 | refine below_set ?_ GE118.out | refine below_set ?_ GE117.out) | exact HB.out)))) : w.heap.size ≤ gb119); have nl118_119 := Aside0.mk ((by rw [hg]; exact Nat.ne_of_lt (blk_lt (g := gb118) (o := .cells #[.slice A0_0 l0_0.length c0_0, .slice A0_1 l0_1.length c0_1, .slice A0_2 l0_2.length c0_2] 49 (0, 0)) (by (with_reducible repeat (first | refine blk_drewN ?_ _ | refine blk_drew ?_ | refine blk_alloc ?_ _)); exact BK118.out)) : gb118 ≠ gb119)); have nl117_119 := Aside0.mk ((by rw [hg]; exact Nat.ne_of_lt (blk_lt (g := gb117) (o := .cells #[.int .i64 a1] 2 (0, 0)) (by (with_reducible repeat (first | refine blk_drewN ?_ _ | refine blk_drew ?_ | refine blk_alloc ?_ _)); exact BK117.out)) : gb117 ≠ gb119)); have m0_ := Aside0.mk (blk_below (g := gb118) (o := .cells #[.slice A0_0 l0_0.length c0_0, .slice A0_1 l0_1.length c0_1, .slice A0_2 l0_2.length c0_2] 49 (0, 0)) (by (with_reducible repeat (first | refine blk_drewN ?_ _ | refine blk_drew ?_ | refine blk_alloc ?_ _)); exact BK118.out) hb); have m1_ := Aside0.mk (blk_below (g := gb117) (o := .cells #[.int .i64 a1] 2 (0, 0)) (by (with_reducible repeat (first | refine blk_drewN ?_ _ | refine blk_drew ?_ | refine blk_alloc ?_ _)); exact BK117.out) hb); have mb_ := Aside0.mk (below_step (by repeat (first | (with_reducible first | exact HB.out | apply below_alloc | apply pw_below_drewN | apply below_drew1 | refine below_set ?_ GE118.out | refine below_set ?_ GE117.out) | exact HB.out)) hb); clear BK118; clear BK117; clear HB; have BK118 := m0_; have BK117 := m1_; have HB := mb_; clear m0_; clear m1_; clear mb_; have BK119 := Aside0.mk hbox; have GE119 := ng_; clear ng_; clear hb hbox hg; have hne118_119 := nl118_119.out; have hnf118_119 := Ne.symm nl118_119.out; have hne117_119 := nl117_119.out; have hnf117_119 := Ne.symm nl117_119.out; have hcza_0 : w7.cell? ⟨gb118, 0, none⟩ = some (.slice A0_0 l0_0.length c0_0) := (blk_cell BK118.out 0).trans rfl; have hcza_1 : w7.cell? ⟨gb118, 1, none⟩ = some (.slice A0_1 l0_1.length c0_1) := (blk_cell BK118.out 1).trans rfl; have hcza_2 : w7.cell? ⟨gb118, 2, none⟩ = some (.slice A0_2 l0_2.length c0_2) := (blk_cell BK118.out 2).trans rfl; have hfza_0 := blk_frozen BK118.out 0; have hfza_1 := blk_frozen BK118.out 1; have hfza_2 := blk_frozen BK118.out 2) | ((with_reducible refine gate_callee (f := 61) rfl ?_); refine goesL_ (some 8) rfl rfl Try.func61 (by kernel_rfl) rfl #[.agg #[.slice A0_0 l0_0.length c0_0, .slice A0_1 l0_1.length c0_1, .slice A0_2 l0_2.length c0_2]] rfl (by (try simp only [List.map_toArray, List.map_cons, List.map_nil]); first | done | rfl | (simp only [List.length_drop, List.length_take]; rfl)) ?_; (with_reducible refine (impl_IsGauss.calls k _ _ l0_0 _ _ l0_1 _ _ l0_2 true _ (Kd.C_below HR0_0.out HB.out) HC0_0.out (Kd.C_below HR0_1.out HB.out) HC0_1.out (Kd.C_below HR0_2.out HB.out) HC0_2.out A1.out).mono ?_); rintro e w9 ⟨rfl, hb⟩; refine ⟨_, rfl, ?_⟩; have m0_ := Aside0.mk (blk_below (g := gb118) (o := .cells #[.slice A0_0 l0_0.length c0_0, .slice A0_1 l0_1.length c0_1, .slice A0_2 l0_2.length c0_2] 49 (0, 0)) (by (with_reducible repeat (first | refine blk_drewN ?_ _ | refine blk_drew ?_ | refine blk_alloc ?_ _)); exact BK118.out) hb); have m1_ := Aside0.mk (blk_below (g := gb117) (o := .cells #[.int .i64 a1] 2 (0, 0)) (by (with_reducible repeat (first | refine blk_drewN ?_ _ | refine blk_drew ?_ | refine blk_alloc ?_ _)); exact BK117.out) hb); have m2_ := Aside0.mk (blk_below (g := gb119) (o := .cells #[.slice none 0 0, .slice none 0 0, .slice none 0 0] 49 (0, 0)) (by (with_reducible repeat (first | refine blk_drewN ?_ _ | refine blk_drew ?_ | refine blk_alloc ?_ _)); exact BK119.out) hb); have mb_ := Aside0.mk (below_step (by repeat (first | (with_reducible first | exact HB.out | apply below_alloc | apply pw_below_drewN | apply below_drew1 | refine below_set ?_ GE118.out | refine below_set ?_ GE117.out | refine below_set ?_ GE119.out) | exact HB.out)) hb); clear BK118; clear BK117; clear BK119; clear HB; have BK118 := m0_; have BK117 := m1_; have BK119 := m2_; have HB := mb_; clear m0_; clear m1_; clear m2_; clear mb_; clear hb; have hczb_0 : w9.cell? ⟨gb118, 0, none⟩ = some (.slice A0_0 l0_0.length c0_0) := (blk_cell BK118.out 0).trans rfl; have hczb_1 : w9.cell? ⟨gb118, 1, none⟩ = some (.slice A0_1 l0_1.length c0_1) := (blk_cell BK118.out 1).trans rfl; have hczb_2 : w9.cell? ⟨gb118, 2, none⟩ = some (.slice A0_2 l0_2.length c0_2) := (blk_cell BK118.out 2).trans rfl; have hfzb_0 := blk_frozen BK118.out 0; have hfzb_1 := blk_frozen BK118.out 1; have hfzb_2 := blk_frozen BK118.out 2; have hczc_0 : w9.cell? ⟨gb117, 0, none⟩ = some (.int .i64 a1) := (blk_cell BK117.out 0).trans rfl; have hfzc_0 := blk_frozen BK117.out 0) | ((with_reducible refine gate_callee (f := 135) rfl ?_); refine goesL_ (some 15) rfl rfl Try.func135 (by kernel_rfl) rfl #[.slice A0_0 l0_0.length c0_0, .int .i64 a1] rfl (by (try simp only [List.map_toArray, List.map_cons, List.map_nil]); first | done | rfl | (simp only [List.length_drop, List.length_take]; rfl)) ?_; (with_reducible refine (impl_isChord.calls _ _ l0_0 a1 true _ (Kd.C_below HR0_0.out HB.out) HC0_0.out A2.out).mono ?_); rintro e w10 ⟨rfl, hb⟩; refine ⟨_, rfl, ?_⟩; replace hb := hb.below; have m0_ := Aside0.mk (blk_below (g := gb118) (o := .cells #[.slice A0_0 l0_0.length c0_0, .slice A0_1 l0_1.length c0_1, .slice A0_2 l0_2.length c0_2] 49 (0, 0)) (by (with_reducible repeat (first | refine blk_drewN ?_ _ | refine blk_drew ?_ | refine blk_alloc ?_ _)); exact BK118.out) hb); have m1_ := Aside0.mk (blk_below (g := gb117) (o := .cells #[.int .i64 a1] 2 (0, 0)) (by (with_reducible repeat (first | refine blk_drewN ?_ _ | refine blk_drew ?_ | refine blk_alloc ?_ _)); exact BK117.out) hb); have m2_ := Aside0.mk (blk_below (g := gb119) (o := .cells #[.slice none 0 0, .slice none 0 0, .slice none 0 0] 49 (0, 0)) (by (with_reducible repeat (first | refine blk_drewN ?_ _ | refine blk_drew ?_ | refine blk_alloc ?_ _)); exact BK119.out) hb); have mb_ := Aside0.mk (below_step (by repeat (first | (with_reducible first | exact HB.out | apply below_alloc | apply pw_below_drewN | apply below_drew1 | refine below_set ?_ GE118.out | refine below_set ?_ GE117.out | refine below_set ?_ GE119.out) | exact HB.out)) hb); clear BK118; clear BK117; clear BK119; clear HB; have BK118 := m0_; have BK117 := m1_; have BK119 := m2_; have HB := mb_; clear m0_; clear m1_; clear m2_; clear mb_; clear hb; have hcze_0 : w10.cell? ⟨gb118, 0, none⟩ = some (.slice A0_0 l0_0.length c0_0) := (blk_cell BK118.out 0).trans rfl; have hcze_1 : w10.cell? ⟨gb118, 1, none⟩ = some (.slice A0_1 l0_1.length c0_1) := (blk_cell BK118.out 1).trans rfl; have hcze_2 : w10.cell? ⟨gb118, 2, none⟩ = some (.slice A0_2 l0_2.length c0_2) := (blk_cell BK118.out 2).trans rfl; have hfze_0 := blk_frozen BK118.out 0; have hfze_1 := blk_frozen BK118.out 1; have hfze_2 := blk_frozen BK118.out 2) | ((with_reducible refine gate_callee (f := 131) rfl ?_); refine goesL_ (some 20) rfl rfl Try.func131 (by kernel_rfl) rfl #[.agg #[.slice A0_0 l0_0.length c0_0, .slice A0_1 l0_1.length c0_1, .slice A0_2 l0_2.length c0_2], .func (.func 136) #[] #[.pointer (some ⟨gb117, 0, none⟩)]] rfl (by (try simp only [List.map_toArray, List.map_cons, List.map_nil]); first | done | rfl | (simp only [List.length_drop, List.length_take]; rfl)) ?_; (refine (impl_switched.calls 136 Try.f136 Try.func136 (by kernel_rfl) rfl #[.pointer (some ⟨gb117, 0, none⟩)] (fun x => some (decide (x = a1))) w10 (fun x b_ W_ hW_ he_ => by injection he_ with he_; subst he_; exact impl_SwitchChord_1.calls gb117 a1 x W_ ((hW_.cell (World.block_lt_of_cell? _ _ ((blk_cell BK117.out 0).trans rfl))).trans ((blk_cell BK117.out 0).trans rfl))) k _ _ l0_0 _ _ l0_1 _ _ l0_2 t31 t32 t33 _ (Below.refl _ _) (Kd.C_below HR0_0.out HB.out) HC0_0.out (Kd.C_below HR0_1.out HB.out) HC0_1.out (Kd.C_below HR0_2.out HB.out) HC0_2.out A3.out).mono ?_); rintro e w11 ⟨v122, v125, v128, rfl, ho0, ho1, ho2, hb⟩; refine ⟨_, rfl, ?_⟩; have n0_ := Aside0.mk (Kd.R_lower ho0 (below_size (by repeat (first | (with_reducible first | exact HB.out | apply below_alloc | apply pw_below_drewN | apply below_drew1 | refine below_set ?_ GE118.out | refine below_set ?_ GE117.out | refine below_set ?_ GE119.out) | exact HB.out)))); have n1_ := Aside0.mk (Kd.R_lower ho1 (below_size (by repeat (first | (with_reducible first | exact HB.out | apply below_alloc | apply pw_below_drewN | apply below_drew1 | refine below_set ?_ GE118.out | refine below_set ?_ GE117.out | refine below_set ?_ GE119.out) | exact HB.out)))); have n2_ := Aside0.mk (Kd.R_lower ho2 (below_size (by repeat (first | (with_reducible first | exact HB.out | apply below_alloc | apply pw_below_drewN | apply below_drew1 | refine below_set ?_ GE118.out | refine below_set ?_ GE117.out | refine below_set ?_ GE119.out) | exact HB.out)))); have m0_ := Aside0.mk (blk_below (g := gb118) (o := .cells #[.slice A0_0 l0_0.length c0_0, .slice A0_1 l0_1.length c0_1, .slice A0_2 l0_2.length c0_2] 49 (0, 0)) (by (with_reducible repeat (first | refine blk_drewN ?_ _ | refine blk_drew ?_ | refine blk_alloc ?_ _)); exact BK118.out) hb); have m1_ := Aside0.mk (blk_below (g := gb117) (o := .cells #[.int .i64 a1] 2 (0, 0)) (by (with_reducible repeat (first | refine blk_drewN ?_ _ | refine blk_drew ?_ | refine blk_alloc ?_ _)); exact BK117.out) hb); have m2_ := Aside0.mk (blk_below (g := gb119) (o := .cells #[.slice none 0 0, .slice none 0 0, .slice none 0 0] 49 (0, 0)) (by (with_reducible repeat (first | refine blk_drewN ?_ _ | refine blk_drew ?_ | refine blk_alloc ?_ _)); exact BK119.out) hb); have mb_ := Aside0.mk (below_step (by repeat (first | (with_reducible first | exact HB.out | apply below_alloc | apply pw_below_drewN | apply below_drew1 | refine below_set ?_ GE118.out | refine below_set ?_ GE117.out | refine below_set ?_ GE119.out) | exact HB.out)) hb); clear BK118; clear BK117; clear BK119; clear HB; have BK118 := m0_; have BK117 := m1_; have BK119 := m2_; have HB := mb_; clear m0_; clear m1_; clear m2_; clear mb_; have HO123 := n0_; have HO126 := n1_; have HO129 := n2_; clear n0_ n1_ n2_ hb ho0 ho1 ho2; obtain ⟨Ao12, co12, eo12⟩ := Kd.R_slice HO123.out; subst eo12; obtain ⟨Ao14, co14, eo14⟩ := Kd.R_slice HO126.out; subst eo14; obtain ⟨Ao15, co15, eo15⟩ := Kd.R_slice HO129.out; subst eo15; have hczd_0 : w11.cell? ⟨gb119, 0, none⟩ = some (.slice none 0 0) := (blk_cell BK119.out 0).trans rfl; have hczd_1 : w11.cell? ⟨gb119, 1, none⟩ = some (.slice none 0 0) := (blk_cell BK119.out 1).trans rfl; have hczd_2 : w11.cell? ⟨gb119, 2, none⟩ = some (.slice none 0 0) := (blk_cell BK119.out 2).trans rfl; have hfzd_0 := blk_frozen BK119.out 0; have hfzd_1 := blk_frozen BK119.out 1; have hfzd_2 := blk_frozen BK119.out 2))
      refine bodyPost_ret (results_ct rfl _ _ gb119 49 #[.slice Ao12 t31.length co12, .slice Ao14 t32.length co14, .slice Ao15 t33.length co15] (0, 0) _ rfl (by (with_reducible repeat (first | refine blk_drewN ?_ _ | refine blk_drew ?_ | refine blk_alloc ?_ _)); refine blk_put (cs := #[.slice Ao12 t31.length co12, .slice Ao14 t32.length co14, .slice none 0 0]) ?_ 2 _ rfl; (with_reducible repeat (first | refine blk_drewN ?_ _ | refine blk_drew ?_ | refine blk_alloc ?_ _)); refine blk_put (cs := #[.slice Ao12 t31.length co12, .slice none 0 0, .slice none 0 0]) ?_ 1 _ rfl; (with_reducible repeat (first | refine blk_drewN ?_ _ | refine blk_drew ?_ | refine blk_alloc ?_ _)); refine blk_put (cs := #[.slice none 0 0, .slice none 0 0, .slice none 0 0]) ?_ 0 _ rfl; (with_reducible repeat (first | refine blk_drewN ?_ _ | refine blk_drew ?_ | refine blk_alloc ?_ _)); exact BK119.out) Try.underlying49 rfl (by kernel_rfl)) rfl ?_
      exact ⟨_, _, _, by first | rfl | (simp; done) | (simp [*]; done), (by (with_reducible repeat (first | apply Kd.R_alloc | apply Kd.R_drewN | apply Kd.R_drew)); exact Kd.R_mono (Kd.R_far (p := ⟨gb119, 2, none⟩) (Kd.R_far (p := ⟨gb119, 1, none⟩) (Kd.R_far (p := ⟨gb119, 0, none⟩) (Kd.R_types HO123.out BK119.out (by decide)) (fun _ hk => hk.2) (.slice Ao12 t31.length co12)) (fun _ hk => hk.2) (.slice Ao14 t32.length co14)) (fun _ hk => hk.2) (.slice Ao15 t33.length co15)) (fun _ hk => ⟨hk.1.1, hk.1.2⟩)), (by (with_reducible repeat (first | apply Kd.R_alloc | apply Kd.R_drewN | apply Kd.R_drew)); exact Kd.R_mono (Kd.R_far (p := ⟨gb119, 2, none⟩) (Kd.R_far (p := ⟨gb119, 1, none⟩) (Kd.R_far (p := ⟨gb119, 0, none⟩) (Kd.R_types HO126.out BK119.out (by decide)) (fun _ hk => hk.2) (.slice Ao12 t31.length co12)) (fun _ hk => hk.2) (.slice Ao14 t32.length co14)) (fun _ hk => hk.2) (.slice Ao15 t33.length co15)) (fun _ hk => ⟨hk.1.1, hk.1.2⟩)), (by (with_reducible repeat (first | apply Kd.R_alloc | apply Kd.R_drewN | apply Kd.R_drew)); exact Kd.R_mono (Kd.R_far (p := ⟨gb119, 2, none⟩) (Kd.R_far (p := ⟨gb119, 1, none⟩) (Kd.R_far (p := ⟨gb119, 0, none⟩) (Kd.R_types HO129.out BK119.out (by decide)) (fun _ hk => hk.2) (.slice Ao12 t31.length co12)) (fun _ hk => hk.2) (.slice Ao14 t32.length co14)) (fun _ hk => hk.2) (.slice Ao15 t33.length co15)) (fun _ hk => ⟨hk.1.1, hk.1.2⟩)), (by repeat (first | (with_reducible first | exact HB.out | apply below_alloc | apply pw_below_drewN | apply below_drew1 | refine below_set ?_ GE118.out | refine below_set ?_ GE117.out | refine below_set ?_ GE119.out) | exact HB.out))⟩
    · replace c2 := Bool.eq_false_iff.mpr c2
      subst c2
      rw [if_neg (by decide)] at h
      simp only [Option.some.injEq, Prod.mk.injEq] at h
      obtain ⟨rfl, rfl, rfl, rfl⟩ := h
      go_enter Try.func74, Try.ntmps74
      go_wp2_with (first | ((with_reducible refine gate_dst (N := 2) rfl ?_); refine box_event ?hg (N := 2) ?hd (cs := #[.slice A0_0 l0_0.length c0_0, .slice A0_1 l0_1.length c0_1, .slice A0_2 l0_2.length c0_2]) (t := 49) ?hr ?_; (case hd => rfl); (case hg => rfl); (case hr => first | (go_simp; done) | (go_simp; rfl)); intro gb118 hg w5 hbox hb; have ng_ := Aside0.mk ((by rw [hg]; exact (below_size (by repeat (first | (with_reducible first | exact HB.out | apply below_alloc | apply pw_below_drewN | apply below_drew1) | exact HB.out)))) : w.heap.size ≤ gb118); have mb_ := Aside0.mk (below_step (by repeat (first | (with_reducible first | exact HB.out | apply below_alloc | apply pw_below_drewN | apply below_drew1) | exact HB.out)) hb); clear HB; have HB := mb_; clear mb_; have BK118 := Aside0.mk hbox; have GE118 := ng_; clear ng_; clear hb hbox hg) | ((with_reducible refine gate_dst (N := 3) rfl ?_); refine box_event ?hg (N := 3) ?hd (cs := #[.int .i64 a1]) (t := 2) ?hr ?_; (case hd => rfl); (case hg => rfl); (case hr => first | (go_simp; done) | (go_simp; rfl)); intro gb117 hg w6 hbox hb; have ng_ := Aside0.mk ((by rw [hg]; exact (below_size (by repeat (first | (with_reducible first | exact HB.out | apply below_alloc | apply pw_below_drewN | apply below_drew1 | refine below_set ?_ GE118.out) | exact HB.out)))) : w.heap.size ≤ gb117); have nl118_117 := Aside0.mk ((by rw [hg]; exact Nat.ne_of_lt (blk_lt (g := gb118) (o := .cells #[.slice A0_0 l0_0.length c0_0, .slice A0_1 l0_1.length c0_1, .slice A0_2 l0_2.length c0_2] 49 (0, 0)) (by (with_reducible repeat (first | refine blk_drewN ?_ _ | refine blk_drew ?_ | refine blk_alloc ?_ _)); exact BK118.out)) : gb118 ≠ gb117)); have m0_ := Aside0.mk (blk_below (g := gb118) (o := .cells #[.slice A0_0 l0_0.length c0_0, .slice A0_1 l0_1.length c0_1, .slice A0_2 l0_2.length c0_2] 49 (0, 0)) (by (with_reducible repeat (first | refine blk_drewN ?_ _ | refine blk_drew ?_ | refine blk_alloc ?_ _)); exact BK118.out) hb); have mb_ := Aside0.mk (below_step (by repeat (first | (with_reducible first | exact HB.out | apply below_alloc | apply pw_below_drewN | apply below_drew1 | refine below_set ?_ GE118.out) | exact HB.out)) hb); clear BK118; clear HB; have BK118 := m0_; have HB := mb_; clear m0_; clear mb_; have BK117 := Aside0.mk hbox; have GE117 := ng_; clear ng_; clear hb hbox hg; have hne118_117 := nl118_117.out; have hnf118_117 := Ne.symm nl118_117.out) | ((with_reducible refine gate_dst (N := 4) rfl ?_); refine box_event ?hg (N := 4) ?hd (cs := #[.slice none 0 0, .slice none 0 0, .slice none 0 0]) (t := 49) ?hr ?_; (case hd => rfl); (case hg => rfl); (case hr => first | (go_simp; done) | (go_simp; rfl)); intro gb119 hg w7 hbox hb; have ng_ := Aside0.mk ((by rw [hg]; exact (below_size (by repeat (first | (with_reducible first | exact HB.out | apply below_alloc | apply pw_below_drewN | apply below_drew1 | refine below_set ?_ GE118.out | refine below_set ?_ GE117.out) | exact HB.out)))) : w.heap.size ≤ gb119); have nl118_119 := Aside0.mk ((by rw [hg]; exact Nat.ne_of_lt (blk_lt (g := gb118) (o := .cells #[.slice A0_0 l0_0.length c0_0, .slice A0_1 l0_1.length c0_1, .slice A0_2 l0_2.length c0_2] 49 (0, 0)) (by (with_reducible repeat (first | refine blk_drewN ?_ _ | refine blk_drew ?_ | refine blk_alloc ?_ _)); exact BK118.out)) : gb118 ≠ gb119)); have nl117_119 := Aside0.mk ((by rw [hg]; exact Nat.ne_of_lt (blk_lt (g := gb117) (o := .cells #[.int .i64 a1] 2 (0, 0)) (by (with_reducible repeat (first | refine blk_drewN ?_ _ | refine blk_drew ?_ | refine blk_alloc ?_ _)); exact BK117.out)) : gb117 ≠ gb119)); have m0_ := Aside0.mk (blk_below (g := gb118) (o := .cells #[.slice A0_0 l0_0.length c0_0, .slice A0_1 l0_1.length c0_1, .slice A0_2 l0_2.length c0_2] 49 (0, 0)) (by (with_reducible repeat (first | refine blk_drewN ?_ _ | refine blk_drew ?_ | refine blk_alloc ?_ _)); exact BK118.out) hb); have m1_ := Aside0.mk (blk_below (g := gb117) (o := .cells #[.int .i64 a1] 2 (0, 0)) (by (with_reducible repeat (first | refine blk_drewN ?_ _ | refine blk_drew ?_ | refine blk_alloc ?_ _)); exact BK117.out) hb); have mb_ := Aside0.mk (below_step (by repeat (first | (with_reducible first | exact HB.out | apply below_alloc | apply pw_below_drewN | apply below_drew1 | refine below_set ?_ GE118.out | refine below_set ?_ GE117.out) | exact HB.out)) hb); clear BK118; clear BK117; clear HB; have BK118 := m0_; have BK117 := m1_; have HB := mb_; clear m0_; clear m1_; clear mb_; have BK119 := Aside0.mk hbox; have GE119 := ng_; clear ng_; clear hb hbox hg; have hne118_119 := nl118_119.out; have hnf118_119 := Ne.symm nl118_119.out; have hne117_119 := nl117_119.out; have hnf117_119 := Ne.symm nl117_119.out; have hcza_0 : w7.cell? ⟨gb118, 0, none⟩ = some (.slice A0_0 l0_0.length c0_0) := (blk_cell BK118.out 0).trans rfl; have hcza_1 : w7.cell? ⟨gb118, 1, none⟩ = some (.slice A0_1 l0_1.length c0_1) := (blk_cell BK118.out 1).trans rfl; have hcza_2 : w7.cell? ⟨gb118, 2, none⟩ = some (.slice A0_2 l0_2.length c0_2) := (blk_cell BK118.out 2).trans rfl; have hfza_0 := blk_frozen BK118.out 0; have hfza_1 := blk_frozen BK118.out 1; have hfza_2 := blk_frozen BK118.out 2) | ((with_reducible refine gate_callee (f := 61) rfl ?_); refine goesL_ (some 8) rfl rfl Try.func61 (by kernel_rfl) rfl #[.agg #[.slice A0_0 l0_0.length c0_0, .slice A0_1 l0_1.length c0_1, .slice A0_2 l0_2.length c0_2]] rfl (by (try simp only [List.map_toArray, List.map_cons, List.map_nil]); first | done | rfl | (simp only [List.length_drop, List.length_take]; rfl)) ?_; (with_reducible refine (impl_IsGauss.calls k _ _ l0_0 _ _ l0_1 _ _ l0_2 true _ (Kd.C_below HR0_0.out HB.out) HC0_0.out (Kd.C_below HR0_1.out HB.out) HC0_1.out (Kd.C_below HR0_2.out HB.out) HC0_2.out A1.out).mono ?_); rintro e w9 ⟨rfl, hb⟩; refine ⟨_, rfl, ?_⟩; have m0_ := Aside0.mk (blk_below (g := gb118) (o := .cells #[.slice A0_0 l0_0.length c0_0, .slice A0_1 l0_1.length c0_1, .slice A0_2 l0_2.length c0_2] 49 (0, 0)) (by (with_reducible repeat (first | refine blk_drewN ?_ _ | refine blk_drew ?_ | refine blk_alloc ?_ _)); exact BK118.out) hb); have m1_ := Aside0.mk (blk_below (g := gb117) (o := .cells #[.int .i64 a1] 2 (0, 0)) (by (with_reducible repeat (first | refine blk_drewN ?_ _ | refine blk_drew ?_ | refine blk_alloc ?_ _)); exact BK117.out) hb); have m2_ := Aside0.mk (blk_below (g := gb119) (o := .cells #[.slice none 0 0, .slice none 0 0, .slice none 0 0] 49 (0, 0)) (by (with_reducible repeat (first | refine blk_drewN ?_ _ | refine blk_drew ?_ | refine blk_alloc ?_ _)); exact BK119.out) hb); have mb_ := Aside0.mk (below_step (by repeat (first | (with_reducible first | exact HB.out | apply below_alloc | apply pw_below_drewN | apply below_drew1 | refine below_set ?_ GE118.out | refine below_set ?_ GE117.out | refine below_set ?_ GE119.out) | exact HB.out)) hb); clear BK118; clear BK117; clear BK119; clear HB; have BK118 := m0_; have BK117 := m1_; have BK119 := m2_; have HB := mb_; clear m0_; clear m1_; clear m2_; clear mb_; clear hb; have hczb_0 : w9.cell? ⟨gb118, 0, none⟩ = some (.slice A0_0 l0_0.length c0_0) := (blk_cell BK118.out 0).trans rfl; have hczb_1 : w9.cell? ⟨gb118, 1, none⟩ = some (.slice A0_1 l0_1.length c0_1) := (blk_cell BK118.out 1).trans rfl; have hczb_2 : w9.cell? ⟨gb118, 2, none⟩ = some (.slice A0_2 l0_2.length c0_2) := (blk_cell BK118.out 2).trans rfl; have hfzb_0 := blk_frozen BK118.out 0; have hfzb_1 := blk_frozen BK118.out 1; have hfzb_2 := blk_frozen BK118.out 2; have hczc_0 : w9.cell? ⟨gb117, 0, none⟩ = some (.int .i64 a1) := (blk_cell BK117.out 0).trans rfl; have hfzc_0 := blk_frozen BK117.out 0) | ((with_reducible refine gate_callee (f := 135) rfl ?_); refine goesL_ (some 15) rfl rfl Try.func135 (by kernel_rfl) rfl #[.slice A0_0 l0_0.length c0_0, .int .i64 a1] rfl (by (try simp only [List.map_toArray, List.map_cons, List.map_nil]); first | done | rfl | (simp only [List.length_drop, List.length_take]; rfl)) ?_; (with_reducible refine (impl_isChord.calls _ _ l0_0 a1 false _ (Kd.C_below HR0_0.out HB.out) HC0_0.out A2.out).mono ?_); rintro e w10 ⟨rfl, hb⟩; refine ⟨_, rfl, ?_⟩; replace hb := hb.below; have m0_ := Aside0.mk (blk_below (g := gb118) (o := .cells #[.slice A0_0 l0_0.length c0_0, .slice A0_1 l0_1.length c0_1, .slice A0_2 l0_2.length c0_2] 49 (0, 0)) (by (with_reducible repeat (first | refine blk_drewN ?_ _ | refine blk_drew ?_ | refine blk_alloc ?_ _)); exact BK118.out) hb); have m1_ := Aside0.mk (blk_below (g := gb117) (o := .cells #[.int .i64 a1] 2 (0, 0)) (by (with_reducible repeat (first | refine blk_drewN ?_ _ | refine blk_drew ?_ | refine blk_alloc ?_ _)); exact BK117.out) hb); have m2_ := Aside0.mk (blk_below (g := gb119) (o := .cells #[.slice none 0 0, .slice none 0 0, .slice none 0 0] 49 (0, 0)) (by (with_reducible repeat (first | refine blk_drewN ?_ _ | refine blk_drew ?_ | refine blk_alloc ?_ _)); exact BK119.out) hb); have mb_ := Aside0.mk (below_step (by repeat (first | (with_reducible first | exact HB.out | apply below_alloc | apply pw_below_drewN | apply below_drew1 | refine below_set ?_ GE118.out | refine below_set ?_ GE117.out | refine below_set ?_ GE119.out) | exact HB.out)) hb); clear BK118; clear BK117; clear BK119; clear HB; have BK118 := m0_; have BK117 := m1_; have BK119 := m2_; have HB := mb_; clear m0_; clear m1_; clear m2_; clear mb_; clear hb; have hczd_0 : w10.cell? ⟨gb119, 0, none⟩ = some (.slice none 0 0) := (blk_cell BK119.out 0).trans rfl; have hczd_1 : w10.cell? ⟨gb119, 1, none⟩ = some (.slice none 0 0) := (blk_cell BK119.out 1).trans rfl; have hczd_2 : w10.cell? ⟨gb119, 2, none⟩ = some (.slice none 0 0) := (blk_cell BK119.out 2).trans rfl; have hfzd_0 := blk_frozen BK119.out 0; have hfzd_1 := blk_frozen BK119.out 1; have hfzd_2 := blk_frozen BK119.out 2))
      refine bodyPost_ret (results_ct rfl _ _ gb119 49 #[.slice none 0 0, .slice none 0 0, .slice none 0 0] (0, 0) _ rfl (by (with_reducible repeat (first | refine blk_drewN ?_ _ | refine blk_drew ?_ | refine blk_alloc ?_ _)); refine blk_put (cs := #[.slice none 0 0, .slice none 0 0, .slice none 0 0]) ?_ 2 _ rfl; (with_reducible repeat (first | refine blk_drewN ?_ _ | refine blk_drew ?_ | refine blk_alloc ?_ _)); refine blk_put (cs := #[.slice none 0 0, .slice none 0 0, .slice none 0 0]) ?_ 1 _ rfl; (with_reducible repeat (first | refine blk_drewN ?_ _ | refine blk_drew ?_ | refine blk_alloc ?_ _)); refine blk_put (cs := #[.slice none 0 0, .slice none 0 0, .slice none 0 0]) ?_ 0 _ rfl; (with_reducible repeat (first | refine blk_drewN ?_ _ | refine blk_drew ?_ | refine blk_alloc ?_ _)); exact BK119.out) Try.underlying49 rfl (by kernel_rfl)) rfl ?_
      exact ⟨_, _, _, by first | rfl | (simp; done) | (simp [*]; done), Kd.R_nil _ _ _ _ _, Kd.R_nil _ _ _ _ _, Kd.R_nil _ _ _ _ _, (by repeat (first | (with_reducible first | exact HB.out | apply below_alloc | apply pw_below_drewN | apply below_drew1 | refine below_set ?_ GE118.out | refine below_set ?_ GE117.out | refine below_set ?_ GE119.out) | exact HB.out))⟩
  · replace c1 := Bool.eq_false_iff.mpr c1
    subst c1
    rw [if_neg (by decide)] at h
    simp only [Option.some.injEq, Prod.mk.injEq] at h
    obtain ⟨rfl, rfl, rfl, rfl⟩ := h
    go_enter Try.func74, Try.ntmps74
    go_wp2_with (first | ((with_reducible refine gate_dst (N := 2) rfl ?_); refine box_event ?hg (N := 2) ?hd (cs := #[.slice A0_0 l0_0.length c0_0, .slice A0_1 l0_1.length c0_1, .slice A0_2 l0_2.length c0_2]) (t := 49) ?hr ?_; (case hd => rfl); (case hg => rfl); (case hr => first | (go_simp; done) | (go_simp; rfl)); intro gb118 hg w5 hbox hb; have ng_ := Aside0.mk ((by rw [hg]; exact (below_size (by repeat (first | (with_reducible first | exact HB.out | apply below_alloc | apply pw_below_drewN | apply below_drew1) | exact HB.out)))) : w.heap.size ≤ gb118); have mb_ := Aside0.mk (below_step (by repeat (first | (with_reducible first | exact HB.out | apply below_alloc | apply pw_below_drewN | apply below_drew1) | exact HB.out)) hb); clear HB; have HB := mb_; clear mb_; have BK118 := Aside0.mk hbox; have GE118 := ng_; clear ng_; clear hb hbox hg) | ((with_reducible refine gate_dst (N := 3) rfl ?_); refine box_event ?hg (N := 3) ?hd (cs := #[.int .i64 a1]) (t := 2) ?hr ?_; (case hd => rfl); (case hg => rfl); (case hr => first | (go_simp; done) | (go_simp; rfl)); intro gb117 hg w6 hbox hb; have ng_ := Aside0.mk ((by rw [hg]; exact (below_size (by repeat (first | (with_reducible first | exact HB.out | apply below_alloc | apply pw_below_drewN | apply below_drew1 | refine below_set ?_ GE118.out) | exact HB.out)))) : w.heap.size ≤ gb117); have nl118_117 := Aside0.mk ((by rw [hg]; exact Nat.ne_of_lt (blk_lt (g := gb118) (o := .cells #[.slice A0_0 l0_0.length c0_0, .slice A0_1 l0_1.length c0_1, .slice A0_2 l0_2.length c0_2] 49 (0, 0)) (by (with_reducible repeat (first | refine blk_drewN ?_ _ | refine blk_drew ?_ | refine blk_alloc ?_ _)); exact BK118.out)) : gb118 ≠ gb117)); have m0_ := Aside0.mk (blk_below (g := gb118) (o := .cells #[.slice A0_0 l0_0.length c0_0, .slice A0_1 l0_1.length c0_1, .slice A0_2 l0_2.length c0_2] 49 (0, 0)) (by (with_reducible repeat (first | refine blk_drewN ?_ _ | refine blk_drew ?_ | refine blk_alloc ?_ _)); exact BK118.out) hb); have mb_ := Aside0.mk (below_step (by repeat (first | (with_reducible first | exact HB.out | apply below_alloc | apply pw_below_drewN | apply below_drew1 | refine below_set ?_ GE118.out) | exact HB.out)) hb); clear BK118; clear HB; have BK118 := m0_; have HB := mb_; clear m0_; clear mb_; have BK117 := Aside0.mk hbox; have GE117 := ng_; clear ng_; clear hb hbox hg; have hne118_117 := nl118_117.out; have hnf118_117 := Ne.symm nl118_117.out) | ((with_reducible refine gate_dst (N := 4) rfl ?_); refine box_event ?hg (N := 4) ?hd (cs := #[.slice none 0 0, .slice none 0 0, .slice none 0 0]) (t := 49) ?hr ?_; (case hd => rfl); (case hg => rfl); (case hr => first | (go_simp; done) | (go_simp; rfl)); intro gb119 hg w7 hbox hb; have ng_ := Aside0.mk ((by rw [hg]; exact (below_size (by repeat (first | (with_reducible first | exact HB.out | apply below_alloc | apply pw_below_drewN | apply below_drew1 | refine below_set ?_ GE118.out | refine below_set ?_ GE117.out) | exact HB.out)))) : w.heap.size ≤ gb119); have nl118_119 := Aside0.mk ((by rw [hg]; exact Nat.ne_of_lt (blk_lt (g := gb118) (o := .cells #[.slice A0_0 l0_0.length c0_0, .slice A0_1 l0_1.length c0_1, .slice A0_2 l0_2.length c0_2] 49 (0, 0)) (by (with_reducible repeat (first | refine blk_drewN ?_ _ | refine blk_drew ?_ | refine blk_alloc ?_ _)); exact BK118.out)) : gb118 ≠ gb119)); have nl117_119 := Aside0.mk ((by rw [hg]; exact Nat.ne_of_lt (blk_lt (g := gb117) (o := .cells #[.int .i64 a1] 2 (0, 0)) (by (with_reducible repeat (first | refine blk_drewN ?_ _ | refine blk_drew ?_ | refine blk_alloc ?_ _)); exact BK117.out)) : gb117 ≠ gb119)); have m0_ := Aside0.mk (blk_below (g := gb118) (o := .cells #[.slice A0_0 l0_0.length c0_0, .slice A0_1 l0_1.length c0_1, .slice A0_2 l0_2.length c0_2] 49 (0, 0)) (by (with_reducible repeat (first | refine blk_drewN ?_ _ | refine blk_drew ?_ | refine blk_alloc ?_ _)); exact BK118.out) hb); have m1_ := Aside0.mk (blk_below (g := gb117) (o := .cells #[.int .i64 a1] 2 (0, 0)) (by (with_reducible repeat (first | refine blk_drewN ?_ _ | refine blk_drew ?_ | refine blk_alloc ?_ _)); exact BK117.out) hb); have mb_ := Aside0.mk (below_step (by repeat (first | (with_reducible first | exact HB.out | apply below_alloc | apply pw_below_drewN | apply below_drew1 | refine below_set ?_ GE118.out | refine below_set ?_ GE117.out) | exact HB.out)) hb); clear BK118; clear BK117; clear HB; have BK118 := m0_; have BK117 := m1_; have HB := mb_; clear m0_; clear m1_; clear mb_; have BK119 := Aside0.mk hbox; have GE119 := ng_; clear ng_; clear hb hbox hg; have hne118_119 := nl118_119.out; have hnf118_119 := Ne.symm nl118_119.out; have hne117_119 := nl117_119.out; have hnf117_119 := Ne.symm nl117_119.out; have hcza_0 : w7.cell? ⟨gb118, 0, none⟩ = some (.slice A0_0 l0_0.length c0_0) := (blk_cell BK118.out 0).trans rfl; have hcza_1 : w7.cell? ⟨gb118, 1, none⟩ = some (.slice A0_1 l0_1.length c0_1) := (blk_cell BK118.out 1).trans rfl; have hcza_2 : w7.cell? ⟨gb118, 2, none⟩ = some (.slice A0_2 l0_2.length c0_2) := (blk_cell BK118.out 2).trans rfl; have hfza_0 := blk_frozen BK118.out 0; have hfza_1 := blk_frozen BK118.out 1; have hfza_2 := blk_frozen BK118.out 2) | ((with_reducible refine gate_callee (f := 61) rfl ?_); refine goesL_ (some 8) rfl rfl Try.func61 (by kernel_rfl) rfl #[.agg #[.slice A0_0 l0_0.length c0_0, .slice A0_1 l0_1.length c0_1, .slice A0_2 l0_2.length c0_2]] rfl (by (try simp only [List.map_toArray, List.map_cons, List.map_nil]); first | done | rfl | (simp only [List.length_drop, List.length_take]; rfl)) ?_; (with_reducible refine (impl_IsGauss.calls k _ _ l0_0 _ _ l0_1 _ _ l0_2 false _ (Kd.C_below HR0_0.out HB.out) HC0_0.out (Kd.C_below HR0_1.out HB.out) HC0_1.out (Kd.C_below HR0_2.out HB.out) HC0_2.out A1.out).mono ?_); rintro e w9 ⟨rfl, hb⟩; refine ⟨_, rfl, ?_⟩; have m0_ := Aside0.mk (blk_below (g := gb118) (o := .cells #[.slice A0_0 l0_0.length c0_0, .slice A0_1 l0_1.length c0_1, .slice A0_2 l0_2.length c0_2] 49 (0, 0)) (by (with_reducible repeat (first | refine blk_drewN ?_ _ | refine blk_drew ?_ | refine blk_alloc ?_ _)); exact BK118.out) hb); have m1_ := Aside0.mk (blk_below (g := gb117) (o := .cells #[.int .i64 a1] 2 (0, 0)) (by (with_reducible repeat (first | refine blk_drewN ?_ _ | refine blk_drew ?_ | refine blk_alloc ?_ _)); exact BK117.out) hb); have m2_ := Aside0.mk (blk_below (g := gb119) (o := .cells #[.slice none 0 0, .slice none 0 0, .slice none 0 0] 49 (0, 0)) (by (with_reducible repeat (first | refine blk_drewN ?_ _ | refine blk_drew ?_ | refine blk_alloc ?_ _)); exact BK119.out) hb); have mb_ := Aside0.mk (below_step (by repeat (first | (with_reducible first | exact HB.out | apply below_alloc | apply pw_below_drewN | apply below_drew1 | refine below_set ?_ GE118.out | refine below_set ?_ GE117.out | refine below_set ?_ GE119.out) | exact HB.out)) hb); clear BK118; clear BK117; clear BK119; clear HB; have BK118 := m0_; have BK117 := m1_; have BK119 := m2_; have HB := mb_; clear m0_; clear m1_; clear m2_; clear mb_; clear hb; have hczd_0 : w9.cell? ⟨gb119, 0, none⟩ = some (.slice none 0 0) := (blk_cell BK119.out 0).trans rfl; have hczd_1 : w9.cell? ⟨gb119, 1, none⟩ = some (.slice none 0 0) := (blk_cell BK119.out 1).trans rfl; have hczd_2 : w9.cell? ⟨gb119, 2, none⟩ = some (.slice none 0 0) := (blk_cell BK119.out 2).trans rfl; have hfzd_0 := blk_frozen BK119.out 0; have hfzd_1 := blk_frozen BK119.out 1; have hfzd_2 := blk_frozen BK119.out 2))
    refine bodyPost_ret (results_ct rfl _ _ gb119 49 #[.slice none 0 0, .slice none 0 0, .slice none 0 0] (0, 0) _ rfl (by (with_reducible repeat (first | refine blk_drewN ?_ _ | refine blk_drew ?_ | refine blk_alloc ?_ _)); refine blk_put (cs := #[.slice none 0 0, .slice none 0 0, .slice none 0 0]) ?_ 2 _ rfl; (with_reducible repeat (first | refine blk_drewN ?_ _ | refine blk_drew ?_ | refine blk_alloc ?_ _)); refine blk_put (cs := #[.slice none 0 0, .slice none 0 0, .slice none 0 0]) ?_ 1 _ rfl; (with_reducible repeat (first | refine blk_drewN ?_ _ | refine blk_drew ?_ | refine blk_alloc ?_ _)); refine blk_put (cs := #[.slice none 0 0, .slice none 0 0, .slice none 0 0]) ?_ 0 _ rfl; (with_reducible repeat (first | refine blk_drewN ?_ _ | refine blk_drew ?_ | refine blk_alloc ?_ _)); exact BK119.out) Try.underlying49 rfl (by kernel_rfl)) rfl ?_
    exact ⟨_, _, _, by first | rfl | (simp; done) | (simp [*]; done), Kd.R_nil _ _ _ _ _, Kd.R_nil _ _ _ _ _, Kd.R_nil _ _ _ _ _, (by repeat (first | (with_reducible first | exact HB.out | apply below_alloc | apply pw_below_drewN | apply below_drew1 | refine below_set ?_ GE118.out | refine below_set ?_ GE117.out | refine below_set ?_ GE119.out) | exact HB.out))⟩

/-! ### laws_FnExactSwitchChord: function 21, by hand -/
def laws_FnExactSwitchChord.Told (l0 l1 l2 : List Int) (i : Int) (k : Nat) (s c m0 m : Int) (g0 g1 g2 q0 q1 q2 p0 p1 p2 : List Int) : Prop :=
  laws_szGauss.f l0 l1 l2 1048576 = some s ∧ laws_toGauss.f k l0 l1 l2 = some (l0, l1, l2) ∧ spec_SwitchChord.f k l0 l1 l2 i = some (g0, g1, g2, c) ∧ impl_SwitchChord.f k l0 l1 l2 i = some (g0, g1, g2, c) ∧ laws_eqGauss.f k g0 g1 g2 g0 g1 g2 = some true ∧ laws_eqGauss.f k l0 l1 l2 l0 l1 l2 = some true ∧ laws_markGauss.f k l0 l1 l2 1 = some (m0, q0, q1, q2) ∧ laws_markGauss.f k g0 g1 g2 1 = some (m, p0, p1, p2) ∧ laws_heldGauss.f k p0 p1 p2 1 = some m ∧ 0 ≤ s ∧ 0 ≤ m0 ∧ 0 ≤ m
set_option maxHeartbeats 16000000 in
set_option maxRecDepth 100000 in
theorem laws_FnExactSwitchChord.one (A0 : Option Addr) (c0 : Nat) (l0 : List Int) (A1 : Option Addr) (c1 : Nat) (l1 : List Int) (A2 : Option Addr) (c2 : Nat) (l2 : List Int) (i : Int) (w : World) (hr0 : Kd.C (Kd.int .i64) w A0 l0.length l0) (hc0 : l0.length ≤ c0) (hr1 : Kd.C (Kd.int .i64) w A1 l1.length l1) (hc1 : l1.length ≤ c1) (hr2 : Kd.C (Kd.int .i64) w A2 l2.length l2) (hc2 : l2.length ≤ c2) (k : Nat) (s c m0 m : Int) (g0 g1 g2 q0 q1 q2 p0 p1 p2 : List Int) (h : laws_FnExactSwitchChord.Told l0 l1 l2 i k s c m0 m g0 g1 g2 q0 q1 q2 p0 p1 p2) :
    Calls Try.prog 21 #[.agg #[.slice A0 l0.length c0, .slice A1 l1.length c1, .slice A2 l2.length c2], .int .i64 i] w fun e w' => e = .returned (.bool true) ∧ Below w.heap.size w w' := by
  have huA := Try.underlying46
  have huB := Try.underlying49
  obtain ⟨h0, h1, h2, h3, h4, h5, h6, h7, h8, h9, h10, h11⟩ := h
  have FZ := Aside0.mk h0
  have FT := Aside0.mk h1
  have FS := Aside0.mk h2
  have FI := Aside0.mk h3
  have FE := Aside0.mk h4
  have FQ := Aside0.mk h5
  have FK := Aside0.mk h6
  have FM := Aside0.mk h7
  have FH := Aside0.mk h8
  have d1 : decide (s < 0) = false := decide_eq_false (by omega)
  have d2 : decide (m0 < 0) = false := decide_eq_false (by omega)
  have d3 : decide (m < 0) = false := decide_eq_false (by omega)
  clear h0 h1 h2 h3 h4 h5 h6 h7 h8 h9 h10 h11
  have HA0 := Aside0.mk hr0
  have HC0 := Aside0.mk hc0
  have HA1 := Aside0.mk hr1
  have HC1 := Aside0.mk hc1
  have HA2 := Aside0.mk hr2
  have HC2 := Aside0.mk hc2
  clear hr0 hr1 hr2 hc0 hc1 hc2
  go_enter Try.func21, Try.ntmps21
  have zPa_0 : (w.alloc (.cells #[.slice A0 l0.length c0, .slice A1 l1.length c1, .slice A2 l2.length c2] 46)).cell? ⟨w.heap.size, 0, none⟩ = some (.slice A0 l0.length c0) := (blk_cell (blk_new _ _) 0).trans rfl
  have zPa_1 : (w.alloc (.cells #[.slice A0 l0.length c0, .slice A1 l1.length c1, .slice A2 l2.length c2] 46)).cell? ⟨w.heap.size, 1, none⟩ = some (.slice A1 l1.length c1) := (blk_cell (blk_new _ _) 1).trans rfl
  have zPa_2 : (w.alloc (.cells #[.slice A0 l0.length c0, .slice A1 l1.length c1, .slice A2 l2.length c2] 46)).cell? ⟨w.heap.size, 2, none⟩ = some (.slice A2 l2.length c2) := (blk_cell (blk_new _ _) 2).trans rfl
  go_wp2_with fail
  obtain ⟨wa, hwa_⟩ : ∃ x_ : World, w.alloc (.cells #[.slice A0 l0.length c0, .slice A1 l1.length c1, .slice A2 l2.length c2] 46) = x_ := ⟨_, rfl⟩
  rw [hwa_]
  have Bwa : Aside0 (Below w.heap.size w wa) := ⟨by rw [← hwa_]; exact below_alloc (Below.refl _ _) _⟩
  have BKP : Aside0 (wa.heap[w.heap.size]? = some (.cells #[.slice A0 l0.length c0, .slice A1 l1.length c1, .slice A2 l2.length c2] 46 (0, 0))) := ⟨by rw [← hwa_]; exact blk_new _ _⟩
  clear hwa_
  have sPwa := blk_lt BKP.out
  refine (laws_szGauss.calls _ _ l0 _ _ l1 _ _ l2 1048576 s _ (Kd.C_below HA0.out Bwa.out) HC0.out (Kd.C_below HA1.out Bwa.out) HC1.out (Kd.C_below HA2.out Bwa.out) HC2.out FZ.out).mono ?_
  rintro e w1 ⟨rfl, hb⟩
  clear zPa_0 zPa_1 zPa_2
  have B1 := Aside0.mk hb
  clear hb
  have n_ := Aside0.mk (blk_below BKP.out B1.out)
  clear BKP
  have BKP := n_
  clear n_
  have BA := Aside0.mk (below_step Bwa.out B1.out)
  have zP_0 : w1.cell? ⟨w.heap.size, 0, none⟩ = some (.slice A0 l0.length c0) := (blk_cell (BKP.out) 0).trans rfl
  have zP_1 : w1.cell? ⟨w.heap.size, 1, none⟩ = some (.slice A1 l1.length c1) := (blk_cell (BKP.out) 1).trans rfl
  have zP_2 : w1.cell? ⟨w.heap.size, 2, none⟩ = some (.slice A2 l2.length c2) := (blk_cell (BKP.out) 2).trans rfl
  go_wp2_with fail
  refine (laws_toGauss.calls k _ _ l0 _ _ l1 _ _ l2 l0 l1 l2 _ (Kd.C_below HA0.out (BA.out)) HC0.out (Kd.C_below HA1.out (BA.out)) HC1.out (Kd.C_below HA2.out (BA.out)) HC2.out FT.out).mono ?_
  rintro e w2 ⟨v20, v21, v22, rfl, o0, o1, o2, hb⟩
  clear zP_0 zP_1 zP_2
  have R20 := Aside0.mk o0
  have R21 := Aside0.mk o1
  have R22 := Aside0.mk o2
  have B2 := Aside0.mk hb
  clear o0 o1 o2 hb
  obtain ⟨A20, c20, rfl⟩ := Kd.R_slice R20.out
  obtain ⟨A21, c21, rfl⟩ := Kd.R_slice R21.out
  obtain ⟨A22, c22, rfl⟩ := Kd.R_slice R22.out
  have n_ := Aside0.mk (blk_below BKP.out B2.out)
  clear BKP
  have BKP := n_
  clear n_
  have BX := Aside0.mk (below_step BA.out B2.out)
  have zP_0 : w2.cell? ⟨w.heap.size, 0, none⟩ = some (.slice A0 l0.length c0) := (blk_cell (BKP.out) 0).trans rfl
  have zP_1 : w2.cell? ⟨w.heap.size, 1, none⟩ = some (.slice A1 l1.length c1) := (blk_cell (BKP.out) 1).trans rfl
  have zP_2 : w2.cell? ⟨w.heap.size, 2, none⟩ = some (.slice A2 l2.length c2) := (blk_cell (BKP.out) 2).trans rfl
  go_wp2_with fail
  refine (spec_SwitchChord.calls k _ _ l0 _ _ l1 _ _ l2 i g0 g1 g2 c _ (Kd.R_reads' R20.out).2.2 (Kd.R_reads' R20.out).2.1 (Kd.R_reads' R21.out).2.2 (Kd.R_reads' R21.out).2.1 (Kd.R_reads' R22.out).2.2 (Kd.R_reads' R22.out).2.1 FS.out).mono ?_
  rintro e w3 ⟨v30, v31, v32, rfl, o0, o1, o2, hb⟩
  clear zP_0 zP_1 zP_2
  have R30 := Aside0.mk o0
  have R31 := Aside0.mk o1
  have R32 := Aside0.mk o2
  have B3 := Aside0.mk hb
  clear o0 o1 o2 hb
  obtain ⟨A30, c30, rfl⟩ := Kd.R_slice R30.out
  obtain ⟨A31, c31, rfl⟩ := Kd.R_slice R31.out
  obtain ⟨A32, c32, rfl⟩ := Kd.R_slice R32.out
  have n_ := Aside0.mk (blk_below BKP.out B3.out)
  clear BKP
  have BKP := n_
  clear n_
  have BW0 := Aside0.mk (below_step BX.out B3.out)
  have K00 := Aside0.mk (Kd.R_reads' R30.out).2.2
  have L0 := Aside0.mk (Kd.R_reads' R30.out).2.1
  have K01 := Aside0.mk (Kd.R_reads' R31.out).2.2
  have L1 := Aside0.mk (Kd.R_reads' R31.out).2.1
  have K02 := Aside0.mk (Kd.R_reads' R32.out).2.2
  have L2 := Aside0.mk (Kd.R_reads' R32.out).2.1
  have zP_0 : w3.cell? ⟨w.heap.size, 0, none⟩ = some (.slice A0 l0.length c0) := (blk_cell (BKP.out) 0).trans rfl
  have zP_1 : w3.cell? ⟨w.heap.size, 1, none⟩ = some (.slice A1 l1.length c1) := (blk_cell (BKP.out) 1).trans rfl
  have zP_2 : w3.cell? ⟨w.heap.size, 2, none⟩ = some (.slice A2 l2.length c2) := (blk_cell (BKP.out) 2).trans rfl
  have zPa_0 : (w3.alloc (.cells #[.slice A30 g0.length c30, .slice A31 g1.length c31, .slice A32 g2.length c32] 49)).cell? ⟨w.heap.size, 0, none⟩ = some (.slice A0 l0.length c0) := (blk_cell (blk_alloc BKP.out _) 0).trans rfl
  have zPa_1 : (w3.alloc (.cells #[.slice A30 g0.length c30, .slice A31 g1.length c31, .slice A32 g2.length c32] 49)).cell? ⟨w.heap.size, 1, none⟩ = some (.slice A1 l1.length c1) := (blk_cell (blk_alloc BKP.out _) 1).trans rfl
  have zPa_2 : (w3.alloc (.cells #[.slice A30 g0.length c30, .slice A31 g1.length c31, .slice A32 g2.length c32] 49)).cell? ⟨w.heap.size, 2, none⟩ = some (.slice A2 l2.length c2) := (blk_cell (blk_alloc BKP.out _) 2).trans rfl
  have zWa_0 : (w3.alloc (.cells #[.slice A30 g0.length c30, .slice A31 g1.length c31, .slice A32 g2.length c32] 49)).cell? ⟨w3.heap.size, 0, none⟩ = some (.slice A30 g0.length c30) := (blk_cell (blk_new _ _) 0).trans rfl
  have zWa_1 : (w3.alloc (.cells #[.slice A30 g0.length c30, .slice A31 g1.length c31, .slice A32 g2.length c32] 49)).cell? ⟨w3.heap.size, 1, none⟩ = some (.slice A31 g1.length c31) := (blk_cell (blk_new _ _) 1).trans rfl
  have zWa_2 : (w3.alloc (.cells #[.slice A30 g0.length c30, .slice A31 g1.length c31, .slice A32 g2.length c32] 49)).cell? ⟨w3.heap.size, 2, none⟩ = some (.slice A32 g2.length c32) := (blk_cell (blk_new _ _) 2).trans rfl
  go_wp2_with fail
  obtain ⟨wr, hwr_⟩ : ∃ x_ : World, w3.alloc (.cells #[.slice A30 g0.length c30, .slice A31 g1.length c31, .slice A32 g2.length c32] 49) = x_ := ⟨_, rfl⟩
  rw [hwr_]
  have Bwr : Aside0 (Below w3.heap.size w3 wr) := ⟨by rw [← hwr_]; exact below_alloc (Below.refl _ _) _⟩
  have BKW : Aside0 (wr.heap[w3.heap.size]? = some (.cells #[.slice A30 g0.length c30, .slice A31 g1.length c31, .slice A32 g2.length c32] 49 (0, 0))) := ⟨by rw [← hwr_]; exact blk_new _ _⟩
  clear hwr_
  have n_ := Aside0.mk (blk_below BKP.out Bwr.out)
  clear BKP
  have BKP := n_
  clear n_
  have sPwr := blk_lt BKP.out
  have sWwr := blk_lt BKW.out
  refine (laws_toGauss.calls k _ _ l0 _ _ l1 _ _ l2 l0 l1 l2 _ (Kd.C_below HA0.out (below_step BW0.out Bwr.out)) HC0.out (Kd.C_below HA1.out (below_step BW0.out Bwr.out)) HC1.out (Kd.C_below HA2.out (below_step BW0.out Bwr.out)) HC2.out FT.out).mono ?_
  rintro e w4 ⟨v40, v41, v42, rfl, o0, o1, o2, hb⟩
  clear zP_0 zP_1 zP_2
  clear zPa_0 zPa_1 zPa_2
  clear zWa_0 zWa_1 zWa_2
  have R40 := Aside0.mk o0
  have R41 := Aside0.mk o1
  have R42 := Aside0.mk o2
  have B4 := Aside0.mk hb
  clear o0 o1 o2 hb
  obtain ⟨A40, c40, rfl⟩ := Kd.R_slice R40.out
  obtain ⟨A41, c41, rfl⟩ := Kd.R_slice R41.out
  obtain ⟨A42, c42, rfl⟩ := Kd.R_slice R42.out
  have BW := Aside0.mk (below_step BW0.out Bwr.out)
  have K0 := Aside0.mk (Kd.C_below K00.out Bwr.out)
  have K1 := Aside0.mk (Kd.C_below K01.out Bwr.out)
  have K2 := Aside0.mk (Kd.C_below K02.out Bwr.out)
  clear R20 R21 R22 R30 R31 R32 B1 B2 B3 BX BA BW0 K00 K01 K02 Bwa
  have n_ := Aside0.mk (blk_below BKP.out B4.out)
  clear BKP
  have BKP := n_
  clear n_
  have n_ := Aside0.mk (blk_below BKW.out B4.out)
  clear BKW
  have BKW := n_
  clear n_
  have BR4 := B4
  have X40 := R40
  have X41 := R41
  have X42 := R42
  have zP_0 : w4.cell? ⟨w.heap.size, 0, none⟩ = some (.slice A0 l0.length c0) := (blk_cell (BKP.out) 0).trans rfl
  have zP_1 : w4.cell? ⟨w.heap.size, 1, none⟩ = some (.slice A1 l1.length c1) := (blk_cell (BKP.out) 1).trans rfl
  have zP_2 : w4.cell? ⟨w.heap.size, 2, none⟩ = some (.slice A2 l2.length c2) := (blk_cell (BKP.out) 2).trans rfl
  have zW_0 : w4.cell? ⟨w3.heap.size, 0, none⟩ = some (.slice A30 g0.length c30) := (blk_cell (BKW.out) 0).trans rfl
  have zW_1 : w4.cell? ⟨w3.heap.size, 1, none⟩ = some (.slice A31 g1.length c31) := (blk_cell (BKW.out) 1).trans rfl
  have zW_2 : w4.cell? ⟨w3.heap.size, 2, none⟩ = some (.slice A32 g2.length c32) := (blk_cell (BKW.out) 2).trans rfl
  have zPa_0 : (w4.alloc (.cells #[.slice A40 l0.length c40, .slice A41 l1.length c41, .slice A42 l2.length c42] 49)).cell? ⟨w.heap.size, 0, none⟩ = some (.slice A0 l0.length c0) := (blk_cell (blk_alloc BKP.out _) 0).trans rfl
  have zPa_1 : (w4.alloc (.cells #[.slice A40 l0.length c40, .slice A41 l1.length c41, .slice A42 l2.length c42] 49)).cell? ⟨w.heap.size, 1, none⟩ = some (.slice A1 l1.length c1) := (blk_cell (blk_alloc BKP.out _) 1).trans rfl
  have zPa_2 : (w4.alloc (.cells #[.slice A40 l0.length c40, .slice A41 l1.length c41, .slice A42 l2.length c42] 49)).cell? ⟨w.heap.size, 2, none⟩ = some (.slice A2 l2.length c2) := (blk_cell (blk_alloc BKP.out _) 2).trans rfl
  have zWa_0 : (w4.alloc (.cells #[.slice A40 l0.length c40, .slice A41 l1.length c41, .slice A42 l2.length c42] 49)).cell? ⟨w3.heap.size, 0, none⟩ = some (.slice A30 g0.length c30) := (blk_cell (blk_alloc BKW.out _) 0).trans rfl
  have zWa_1 : (w4.alloc (.cells #[.slice A40 l0.length c40, .slice A41 l1.length c41, .slice A42 l2.length c42] 49)).cell? ⟨w3.heap.size, 1, none⟩ = some (.slice A31 g1.length c31) := (blk_cell (blk_alloc BKW.out _) 1).trans rfl
  have zWa_2 : (w4.alloc (.cells #[.slice A40 l0.length c40, .slice A41 l1.length c41, .slice A42 l2.length c42] 49)).cell? ⟨w3.heap.size, 2, none⟩ = some (.slice A32 g2.length c32) := (blk_cell (blk_alloc BKW.out _) 2).trans rfl
  have zXa_0 : (w4.alloc (.cells #[.slice A40 l0.length c40, .slice A41 l1.length c41, .slice A42 l2.length c42] 49)).cell? ⟨w4.heap.size, 0, none⟩ = some (.slice A40 l0.length c40) := (blk_cell (blk_new _ _) 0).trans rfl
  have zXa_1 : (w4.alloc (.cells #[.slice A40 l0.length c40, .slice A41 l1.length c41, .slice A42 l2.length c42] 49)).cell? ⟨w4.heap.size, 1, none⟩ = some (.slice A41 l1.length c41) := (blk_cell (blk_new _ _) 1).trans rfl
  have zXa_2 : (w4.alloc (.cells #[.slice A40 l0.length c40, .slice A41 l1.length c41, .slice A42 l2.length c42] 49)).cell? ⟨w4.heap.size, 2, none⟩ = some (.slice A42 l2.length c42) := (blk_cell (blk_new _ _) 2).trans rfl
  go_wp2_with fail
  obtain ⟨wx, hwx_⟩ : ∃ x_ : World, w4.alloc (.cells #[.slice A40 l0.length c40, .slice A41 l1.length c41, .slice A42 l2.length c42] 49) = x_ := ⟨_, rfl⟩
  rw [hwx_]
  have Bwx : Aside0 (Below w4.heap.size w4 wx) := ⟨by rw [← hwx_]; exact below_alloc (Below.refl _ _) _⟩
  have BKX : Aside0 (wx.heap[w4.heap.size]? = some (.cells #[.slice A40 l0.length c40, .slice A41 l1.length c41, .slice A42 l2.length c42] 49 (0, 0))) := ⟨by rw [← hwx_]; exact blk_new _ _⟩
  clear hwx_
  have n_ := Aside0.mk (blk_below BKP.out Bwx.out)
  clear BKP
  have BKP := n_
  clear n_
  have n_ := Aside0.mk (blk_below BKW.out Bwx.out)
  clear BKW
  have BKW := n_
  clear n_
  have sPwx := blk_lt BKP.out
  have sWwx := blk_lt BKW.out
  have sXwx := blk_lt BKX.out
  refine (impl_SwitchChord.calls k _ _ l0 _ _ l1 _ _ l2 i g0 g1 g2 c _ (Kd.C_below (Kd.R_reads' R40.out).2.2 Bwx.out) (Kd.R_reads' R40.out).2.1 (Kd.C_below (Kd.R_reads' R41.out).2.2 Bwx.out) (Kd.R_reads' R41.out).2.1 (Kd.C_below (Kd.R_reads' R42.out).2.2 Bwx.out) (Kd.R_reads' R42.out).2.1 FI.out).mono ?_
  rintro e w5 ⟨v50, v51, v52, rfl, o0, o1, o2, hb⟩
  clear zP_0 zP_1 zP_2
  clear zW_0 zW_1 zW_2
  clear zPa_0 zPa_1 zPa_2
  clear zWa_0 zWa_1 zWa_2
  clear zXa_0 zXa_1 zXa_2
  have R50 := Aside0.mk o0
  have R51 := Aside0.mk o1
  have R52 := Aside0.mk o2
  have B5 := Aside0.mk hb
  clear o0 o1 o2 hb
  obtain ⟨A50, c50, rfl⟩ := Kd.R_slice R50.out
  obtain ⟨A51, c51, rfl⟩ := Kd.R_slice R51.out
  obtain ⟨A52, c52, rfl⟩ := Kd.R_slice R52.out
  have BRx := Aside0.mk (below_step BR4.out Bwx.out)
  have Xx0 := Aside0.mk (Kd.R_below X40.out Bwx.out)
  have Xx1 := Aside0.mk (Kd.R_below X41.out Bwx.out)
  have Xx2 := Aside0.mk (Kd.R_below X42.out Bwx.out)
  have BR5 := Aside0.mk (below_step BRx.out B5.out)
  have X50 := Aside0.mk (Kd.R_below Xx0.out B5.out)
  have X51 := Aside0.mk (Kd.R_below Xx1.out B5.out)
  have X52 := Aside0.mk (Kd.R_below Xx2.out B5.out)
  have n_ := Aside0.mk (blk_below BKP.out B5.out)
  clear BKP
  have BKP := n_
  clear n_
  have n_ := Aside0.mk (blk_below BKW.out B5.out)
  clear BKW
  have BKW := n_
  clear n_
  have n_ := Aside0.mk (blk_below BKX.out B5.out)
  clear BKX
  have BKX := n_
  clear n_
  have G50 := R50
  have G51 := R51
  have G52 := R52
  have zP_0 : w5.cell? ⟨w.heap.size, 0, none⟩ = some (.slice A0 l0.length c0) := (blk_cell (BKP.out) 0).trans rfl
  have zP_1 : w5.cell? ⟨w.heap.size, 1, none⟩ = some (.slice A1 l1.length c1) := (blk_cell (BKP.out) 1).trans rfl
  have zP_2 : w5.cell? ⟨w.heap.size, 2, none⟩ = some (.slice A2 l2.length c2) := (blk_cell (BKP.out) 2).trans rfl
  have zW_0 : w5.cell? ⟨w3.heap.size, 0, none⟩ = some (.slice A30 g0.length c30) := (blk_cell (BKW.out) 0).trans rfl
  have zW_1 : w5.cell? ⟨w3.heap.size, 1, none⟩ = some (.slice A31 g1.length c31) := (blk_cell (BKW.out) 1).trans rfl
  have zW_2 : w5.cell? ⟨w3.heap.size, 2, none⟩ = some (.slice A32 g2.length c32) := (blk_cell (BKW.out) 2).trans rfl
  have zX_0 : w5.cell? ⟨w4.heap.size, 0, none⟩ = some (.slice A40 l0.length c40) := (blk_cell (BKX.out) 0).trans rfl
  have zX_1 : w5.cell? ⟨w4.heap.size, 1, none⟩ = some (.slice A41 l1.length c41) := (blk_cell (BKX.out) 1).trans rfl
  have zX_2 : w5.cell? ⟨w4.heap.size, 2, none⟩ = some (.slice A42 l2.length c42) := (blk_cell (BKX.out) 2).trans rfl
  have zPa_0 : (w5.alloc (.cells #[.slice A50 g0.length c50, .slice A51 g1.length c51, .slice A52 g2.length c52] 49)).cell? ⟨w.heap.size, 0, none⟩ = some (.slice A0 l0.length c0) := (blk_cell (blk_alloc BKP.out _) 0).trans rfl
  have zPa_1 : (w5.alloc (.cells #[.slice A50 g0.length c50, .slice A51 g1.length c51, .slice A52 g2.length c52] 49)).cell? ⟨w.heap.size, 1, none⟩ = some (.slice A1 l1.length c1) := (blk_cell (blk_alloc BKP.out _) 1).trans rfl
  have zPa_2 : (w5.alloc (.cells #[.slice A50 g0.length c50, .slice A51 g1.length c51, .slice A52 g2.length c52] 49)).cell? ⟨w.heap.size, 2, none⟩ = some (.slice A2 l2.length c2) := (blk_cell (blk_alloc BKP.out _) 2).trans rfl
  have zWa_0 : (w5.alloc (.cells #[.slice A50 g0.length c50, .slice A51 g1.length c51, .slice A52 g2.length c52] 49)).cell? ⟨w3.heap.size, 0, none⟩ = some (.slice A30 g0.length c30) := (blk_cell (blk_alloc BKW.out _) 0).trans rfl
  have zWa_1 : (w5.alloc (.cells #[.slice A50 g0.length c50, .slice A51 g1.length c51, .slice A52 g2.length c52] 49)).cell? ⟨w3.heap.size, 1, none⟩ = some (.slice A31 g1.length c31) := (blk_cell (blk_alloc BKW.out _) 1).trans rfl
  have zWa_2 : (w5.alloc (.cells #[.slice A50 g0.length c50, .slice A51 g1.length c51, .slice A52 g2.length c52] 49)).cell? ⟨w3.heap.size, 2, none⟩ = some (.slice A32 g2.length c32) := (blk_cell (blk_alloc BKW.out _) 2).trans rfl
  have zXa_0 : (w5.alloc (.cells #[.slice A50 g0.length c50, .slice A51 g1.length c51, .slice A52 g2.length c52] 49)).cell? ⟨w4.heap.size, 0, none⟩ = some (.slice A40 l0.length c40) := (blk_cell (blk_alloc BKX.out _) 0).trans rfl
  have zXa_1 : (w5.alloc (.cells #[.slice A50 g0.length c50, .slice A51 g1.length c51, .slice A52 g2.length c52] 49)).cell? ⟨w4.heap.size, 1, none⟩ = some (.slice A41 l1.length c41) := (blk_cell (blk_alloc BKX.out _) 1).trans rfl
  have zXa_2 : (w5.alloc (.cells #[.slice A50 g0.length c50, .slice A51 g1.length c51, .slice A52 g2.length c52] 49)).cell? ⟨w4.heap.size, 2, none⟩ = some (.slice A42 l2.length c42) := (blk_cell (blk_alloc BKX.out _) 2).trans rfl
  have zGa_0 : (w5.alloc (.cells #[.slice A50 g0.length c50, .slice A51 g1.length c51, .slice A52 g2.length c52] 49)).cell? ⟨w5.heap.size, 0, none⟩ = some (.slice A50 g0.length c50) := (blk_cell (blk_new _ _) 0).trans rfl
  have zGa_1 : (w5.alloc (.cells #[.slice A50 g0.length c50, .slice A51 g1.length c51, .slice A52 g2.length c52] 49)).cell? ⟨w5.heap.size, 1, none⟩ = some (.slice A51 g1.length c51) := (blk_cell (blk_new _ _) 1).trans rfl
  have zGa_2 : (w5.alloc (.cells #[.slice A50 g0.length c50, .slice A51 g1.length c51, .slice A52 g2.length c52] 49)).cell? ⟨w5.heap.size, 2, none⟩ = some (.slice A52 g2.length c52) := (blk_cell (blk_new _ _) 2).trans rfl
  go_wp2_with fail
  obtain ⟨wg, hwg_⟩ : ∃ x_ : World, w5.alloc (.cells #[.slice A50 g0.length c50, .slice A51 g1.length c51, .slice A52 g2.length c52] 49) = x_ := ⟨_, rfl⟩
  rw [hwg_]
  have Bwg : Aside0 (Below w5.heap.size w5 wg) := ⟨by rw [← hwg_]; exact below_alloc (Below.refl _ _) _⟩
  have BKG : Aside0 (wg.heap[w5.heap.size]? = some (.cells #[.slice A50 g0.length c50, .slice A51 g1.length c51, .slice A52 g2.length c52] 49 (0, 0))) := ⟨by rw [← hwg_]; exact blk_new _ _⟩
  clear hwg_
  have n_ := Aside0.mk (blk_below BKP.out Bwg.out)
  clear BKP
  have BKP := n_
  clear n_
  have n_ := Aside0.mk (blk_below BKW.out Bwg.out)
  clear BKW
  have BKW := n_
  clear n_
  have n_ := Aside0.mk (blk_below BKX.out Bwg.out)
  clear BKX
  have BKX := n_
  clear n_
  have sPwg := blk_lt BKP.out
  have sWwg := blk_lt BKW.out
  have sXwg := blk_lt BKX.out
  have sGwg := blk_lt BKG.out
  refine (laws_eqGauss.calls k _ _ g0 _ _ g1 _ _ g2 _ _ g0 _ _ g1 _ _ g2 true _ (Kd.C_below (Kd.R_reads' G50.out).2.2 Bwg.out) (Kd.R_reads' G50.out).2.1 (Kd.C_below (Kd.R_reads' G51.out).2.2 Bwg.out) (Kd.R_reads' G51.out).2.1 (Kd.C_below (Kd.R_reads' G52.out).2.2 Bwg.out) (Kd.R_reads' G52.out).2.1 (Kd.C_below K0.out (below_step BR5.out Bwg.out)) L0.out (Kd.C_below K1.out (below_step BR5.out Bwg.out)) L1.out (Kd.C_below K2.out (below_step BR5.out Bwg.out)) L2.out FE.out).mono ?_
  rintro e w6 ⟨rfl, hb⟩
  clear zP_0 zP_1 zP_2
  clear zW_0 zW_1 zW_2
  clear zX_0 zX_1 zX_2
  clear zPa_0 zPa_1 zPa_2
  clear zWa_0 zWa_1 zWa_2
  clear zXa_0 zXa_1 zXa_2
  clear zGa_0 zGa_1 zGa_2
  have B6 := Aside0.mk hb
  clear hb
  have BRg := Aside0.mk (below_step BR5.out Bwg.out)
  have Xg0 := Aside0.mk (Kd.R_below X50.out Bwg.out)
  have Xg1 := Aside0.mk (Kd.R_below X51.out Bwg.out)
  have Xg2 := Aside0.mk (Kd.R_below X52.out Bwg.out)
  have Gg0 := Aside0.mk (Kd.R_below G50.out Bwg.out)
  have Gg1 := Aside0.mk (Kd.R_below G51.out Bwg.out)
  have Gg2 := Aside0.mk (Kd.R_below G52.out Bwg.out)
  have BR6 := Aside0.mk (below_step BRg.out B6.out)
  have X60 := Aside0.mk (Kd.R_below Xg0.out B6.out)
  have X61 := Aside0.mk (Kd.R_below Xg1.out B6.out)
  have X62 := Aside0.mk (Kd.R_below Xg2.out B6.out)
  have G60 := Aside0.mk (Kd.R_below Gg0.out B6.out)
  have G61 := Aside0.mk (Kd.R_below Gg1.out B6.out)
  have G62 := Aside0.mk (Kd.R_below Gg2.out B6.out)
  have n_ := Aside0.mk (blk_below BKP.out B6.out)
  clear BKP
  have BKP := n_
  clear n_
  have n_ := Aside0.mk (blk_below BKW.out B6.out)
  clear BKW
  have BKW := n_
  clear n_
  have n_ := Aside0.mk (blk_below BKX.out B6.out)
  clear BKX
  have BKX := n_
  clear n_
  have n_ := Aside0.mk (blk_below BKG.out B6.out)
  clear BKG
  have BKG := n_
  clear n_
  try go_wp2_with fail
  have Bwd : Aside0 (Below w6.heap.size w6 w6.drew) := ⟨below_drew1 (Below.refl _ _)⟩
  have BRd := Aside0.mk (below_step BR6.out Bwd.out)
  have Xd0 := Aside0.mk (Kd.R_below X60.out Bwd.out)
  have Xd1 := Aside0.mk (Kd.R_below X61.out Bwd.out)
  have Xd2 := Aside0.mk (Kd.R_below X62.out Bwd.out)
  have Gd0 := Aside0.mk (Kd.R_below G60.out Bwd.out)
  have Gd1 := Aside0.mk (Kd.R_below G61.out Bwd.out)
  have Gd2 := Aside0.mk (Kd.R_below G62.out Bwd.out)
  have n_ := Aside0.mk (blk_below BKP.out Bwd.out)
  clear BKP
  have BKP := n_
  clear n_
  have n_ := Aside0.mk (blk_below BKW.out Bwd.out)
  clear BKW
  have BKW := n_
  clear n_
  have n_ := Aside0.mk (blk_below BKX.out Bwd.out)
  clear BKX
  have BKX := n_
  clear n_
  have n_ := Aside0.mk (blk_below BKG.out Bwd.out)
  clear BKG
  have BKG := n_
  clear n_
  refine start_ (n := 5) (S := fun w' => w'.cell? ⟨w4.heap.size, 0, none⟩ = some (.slice A40 l0.length c40) ∧ w'.cell? ⟨w4.heap.size, 1, none⟩ = some (.slice A41 l1.length c41) ∧ w'.cell? ⟨w4.heap.size, 2, none⟩ = some (.slice A42 l2.length c42) ∧ w'.cell? ⟨w.heap.size, 0, none⟩ = some (.slice A0 l0.length c0) ∧ w'.cell? ⟨w.heap.size, 1, none⟩ = some (.slice A1 l1.length c1) ∧ w'.cell? ⟨w.heap.size, 2, none⟩ = some (.slice A2 l2.length c2)) (ds := []) #[false, false, false, false, false] (by kernel_rfl) rfl rfl ⟨(blk_cell BKX.out 0).trans rfl, (blk_cell BKX.out 1).trans rfl, (blk_cell BKX.out 2).trans rfl, (blk_cell BKP.out 0).trans rfl, (blk_cell BKP.out 1).trans rfl, (blk_cell BKP.out 2).trans rfl⟩ (fun hHeld => ?_)
  generalize w6.drew = wd at Bwd BRd Xd0 Xd1 Xd2 Gd0 Gd1 Gd2 BKP BKW BKX BKG hHeld ⊢
  refine take_ (i := 0) (N := some 45) (v := ?_) (a' := ?_) #[true, false, false, false, false] rfl rfl (by kernel_rfl) (fun _ _ _ h => h) (Or.inl ⟨by rfl, ?_⟩) hHeld ?_ ?_
  rotate_left
  · rintro w' ⟨s0, s1, s2, s3, s4, s5⟩
    go_simp
    with_reducible rfl
  rotate_left
  · simp only [Act.put, List.setIfInBounds_toArray, List.set_cons_zero, List.set_cons_succ, i64_w, i32_w]
    rfl
  refine take_ (i := 1) (N := some 46) (v := ?_) (a' := ?_) #[true, true, false, false, false] rfl rfl (by kernel_rfl) (fun _ _ _ h => h) (Or.inl ⟨by rfl, ?_⟩) hHeld ?_ ?_
  rotate_left
  · rintro w' ⟨s0, s1, s2, s3, s4, s5⟩
    go_simp
    with_reducible rfl
  rotate_left
  · simp only [Act.put, List.setIfInBounds_toArray, List.set_cons_zero, List.set_cons_succ, i64_w, i32_w]
    rfl
  refine one_ (i := 2) (N := some 47) #[true, true, true, false, false] rfl rfl (by kernel_rfl) (by decide) (fun K hK => ?_)
  refine goes_ Try.func60 (by kernel_rfl) rfl #[.agg #[.slice A0 l0.length c0, .slice A1 l1.length c1, .slice A2 l2.length c2]] (by rfl) rfl rfl (by (try simp only [List.map_toArray, List.map_cons, List.map_nil]); first | done | rfl | (simp only [List.length_drop, List.length_take]; rfl)) ?_
  refine (laws_toGauss.calls k _ _ l0 _ _ l1 _ _ l2 l0 l1 l2 _ (Kd.C_below HA0.out (below_then BW.out BW.out.size (BRd.out))) HC0.out (Kd.C_below HA1.out (below_then BW.out BW.out.size (BRd.out))) HC1.out (Kd.C_below HA2.out (below_then BW.out BW.out.size (BRd.out))) HC2.out FT.out).mono ?_
  rintro e w7 ⟨v70, v71, v72, rfl, o0, o1, o2, hb⟩
  refine ⟨_, rfl, ?_⟩
  have R70 := Aside0.mk o0
  have R71 := Aside0.mk o1
  have R72 := Aside0.mk o2
  have B7 := Aside0.mk hb
  clear o0 o1 o2 hb
  obtain ⟨A70, c70, rfl⟩ := Kd.R_slice R70.out
  obtain ⟨A71, c71, rfl⟩ := Kd.R_slice R71.out
  obtain ⟨A72, c72, rfl⟩ := Kd.R_slice R72.out
  have BR7 := Aside0.mk (below_step BRd.out B7.out)
  have X70 := Aside0.mk (Kd.R_below Xd0.out B7.out)
  have X71 := Aside0.mk (Kd.R_below Xd1.out B7.out)
  have X72 := Aside0.mk (Kd.R_below Xd2.out B7.out)
  have G70 := Aside0.mk (Kd.R_below Gd0.out B7.out)
  have G71 := Aside0.mk (Kd.R_below Gd1.out B7.out)
  have G72 := Aside0.mk (Kd.R_below Gd2.out B7.out)
  have n_ := Aside0.mk (blk_below BKP.out B7.out)
  clear BKP
  have BKP := n_
  clear n_
  have n_ := Aside0.mk (blk_below BKW.out B7.out)
  clear BKW
  have BKW := n_
  clear n_
  have n_ := Aside0.mk (blk_below BKX.out B7.out)
  clear BKX
  have BKX := n_
  clear n_
  have n_ := Aside0.mk (blk_below BKG.out B7.out)
  clear BKG
  have BKG := n_
  clear n_
  refine hK.out _ _ ⟨(blk_cell BKX.out 0).trans rfl, (blk_cell BKX.out 1).trans rfl, (blk_cell BKX.out 2).trans rfl, (blk_cell BKP.out 0).trans rfl, (blk_cell BKP.out 1).trans rfl, (blk_cell BKP.out 2).trans rfl⟩ (fun hHeld => ?_)
  clear hK K
  refine norm_ (a' := ?_) ?_ ?_
  rotate_left
  · show Act.put _ (some 47) _ = _
    simp only [Act.put, List.setIfInBounds_toArray, List.set_cons_zero, List.set_cons_succ, i64_w, i32_w]
    rfl
  refine one_ (i := 3) (N := some 48) #[true, true, true, true, false] rfl rfl (by kernel_rfl) (by decide) (fun K hK => ?_)
  refine goes_ Try.func62 (by kernel_rfl) rfl #[.agg #[.slice A40 l0.length c40, .slice A41 l1.length c41, .slice A42 l2.length c42], .agg #[.slice A70 l0.length c70, .slice A71 l1.length c71, .slice A72 l2.length c72]] (by rfl) rfl rfl (by (try simp only [List.map_toArray, List.map_cons, List.map_nil]); first | done | rfl | (simp only [List.length_drop, List.length_take]; rfl)) ?_
  refine (laws_eqGauss.calls k _ _ l0 _ _ l1 _ _ l2 _ _ l0 _ _ l1 _ _ l2 true _ (Kd.R_reads' X70.out).2.2 (Kd.R_reads' X70.out).2.1 (Kd.R_reads' X71.out).2.2 (Kd.R_reads' X71.out).2.1 (Kd.R_reads' X72.out).2.2 (Kd.R_reads' X72.out).2.1 (Kd.R_reads' R70.out).2.2 (Kd.R_reads' R70.out).2.1 (Kd.R_reads' R71.out).2.2 (Kd.R_reads' R71.out).2.1 (Kd.R_reads' R72.out).2.2 (Kd.R_reads' R72.out).2.1 FQ.out).mono ?_
  rintro e w8 ⟨rfl, hb⟩
  refine ⟨_, rfl, ?_⟩
  have B8 := Aside0.mk hb
  clear hb
  have BR8 := Aside0.mk (below_step BR7.out B8.out)
  have X80 := Aside0.mk (Kd.R_below X70.out B8.out)
  have X81 := Aside0.mk (Kd.R_below X71.out B8.out)
  have X82 := Aside0.mk (Kd.R_below X72.out B8.out)
  have G80 := Aside0.mk (Kd.R_below G70.out B8.out)
  have G81 := Aside0.mk (Kd.R_below G71.out B8.out)
  have G82 := Aside0.mk (Kd.R_below G72.out B8.out)
  have n_ := Aside0.mk (blk_below BKP.out B8.out)
  clear BKP
  have BKP := n_
  clear n_
  have n_ := Aside0.mk (blk_below BKW.out B8.out)
  clear BKW
  have BKW := n_
  clear n_
  have n_ := Aside0.mk (blk_below BKX.out B8.out)
  clear BKX
  have BKX := n_
  clear n_
  have n_ := Aside0.mk (blk_below BKG.out B8.out)
  clear BKG
  have BKG := n_
  clear n_
  refine hK.out _ _ ⟨(blk_cell BKX.out 0).trans rfl, (blk_cell BKX.out 1).trans rfl, (blk_cell BKX.out 2).trans rfl, (blk_cell BKP.out 0).trans rfl, (blk_cell BKP.out 1).trans rfl, (blk_cell BKP.out 2).trans rfl⟩ (fun hHeld => ?_)
  clear hK K
  refine norm_ (a' := ?_) ?_ ?_
  rotate_left
  · show Act.put _ (some 48) _ = _
    simp only [Act.put, List.setIfInBounds_toArray, List.set_cons_zero, List.set_cons_succ, i64_w, i32_w]
    rfl
  refine pure_ (i := 4) (N := some 49) (v := ?_) (a' := ?_) #[true, true, true, true, true] rfl rfl (by kernel_rfl) (fun _ _ _ h => h) (Or.inl ⟨by rfl, ?_⟩) ?_ ?_
  rotate_left
  · intro w'
    go_simp
    with_reducible rfl
  rotate_left
  · simp only [Act.put, List.setIfInBounds_toArray, List.set_cons_zero, List.set_cons_succ, i64_w, i32_w]
    rfl
  refine done_ (by kernel_rfl) ?_
  have E40 : ∀ k_, some k_ = (.slice A40 l0.length c40 : Value).ownBlock → wr.heap.size ≤ k_ ∧ k_ < w4.heap.size := fun k_ h_ => ⟨((Kd.R_bound R40.out).1 k_ h_.symm).2.1, ((Kd.R_bound R40.out).1 k_ h_.symm).2.2.1⟩
  have E41 : ∀ k_, some k_ = (.slice A41 l1.length c41 : Value).ownBlock → wr.heap.size ≤ k_ ∧ k_ < w4.heap.size := fun k_ h_ => ⟨((Kd.R_bound R41.out).1 k_ h_.symm).2.1, ((Kd.R_bound R41.out).1 k_ h_.symm).2.2.1⟩
  have E42 : ∀ k_, some k_ = (.slice A42 l2.length c42 : Value).ownBlock → wr.heap.size ≤ k_ ∧ k_ < w4.heap.size := fun k_ h_ => ⟨((Kd.R_bound R42.out).1 k_ h_.symm).2.1, ((Kd.R_bound R42.out).1 k_ h_.symm).2.2.1⟩
  have E50 : ∀ k_, some k_ = (.slice A50 g0.length c50 : Value).ownBlock → wx.heap.size ≤ k_ ∧ k_ < w5.heap.size := fun k_ h_ => ⟨((Kd.R_bound R50.out).1 k_ h_.symm).2.1, ((Kd.R_bound R50.out).1 k_ h_.symm).2.2.1⟩
  have E51 : ∀ k_, some k_ = (.slice A51 g1.length c51 : Value).ownBlock → wx.heap.size ≤ k_ ∧ k_ < w5.heap.size := fun k_ h_ => ⟨((Kd.R_bound R51.out).1 k_ h_.symm).2.1, ((Kd.R_bound R51.out).1 k_ h_.symm).2.2.1⟩
  have E52 : ∀ k_, some k_ = (.slice A52 g2.length c52 : Value).ownBlock → wx.heap.size ≤ k_ ∧ k_ < w5.heap.size := fun k_ h_ => ⟨((Kd.R_bound R52.out).1 k_ h_.symm).2.1, ((Kd.R_bound R52.out).1 k_ h_.symm).2.2.1⟩
  have z4 := Bwx.out.size
  have z5 := B5.out.size
  have z3 := B4.out.size
  have zP_0 : w8.cell? ⟨w.heap.size, 0, none⟩ = some (.slice A0 l0.length c0) := (blk_cell (BKP.out) 0).trans rfl
  have zP_1 : w8.cell? ⟨w.heap.size, 1, none⟩ = some (.slice A1 l1.length c1) := (blk_cell (BKP.out) 1).trans rfl
  have zP_2 : w8.cell? ⟨w.heap.size, 2, none⟩ = some (.slice A2 l2.length c2) := (blk_cell (BKP.out) 2).trans rfl
  have zW_0 : w8.cell? ⟨w3.heap.size, 0, none⟩ = some (.slice A30 g0.length c30) := (blk_cell (BKW.out) 0).trans rfl
  have zW_1 : w8.cell? ⟨w3.heap.size, 1, none⟩ = some (.slice A31 g1.length c31) := (blk_cell (BKW.out) 1).trans rfl
  have zW_2 : w8.cell? ⟨w3.heap.size, 2, none⟩ = some (.slice A32 g2.length c32) := (blk_cell (BKW.out) 2).trans rfl
  have zX_0 : w8.cell? ⟨w4.heap.size, 0, none⟩ = some (.slice A40 l0.length c40) := (blk_cell (BKX.out) 0).trans rfl
  have zX_1 : w8.cell? ⟨w4.heap.size, 1, none⟩ = some (.slice A41 l1.length c41) := (blk_cell (BKX.out) 1).trans rfl
  have zX_2 : w8.cell? ⟨w4.heap.size, 2, none⟩ = some (.slice A42 l2.length c42) := (blk_cell (BKX.out) 2).trans rfl
  have zG_0 : w8.cell? ⟨w5.heap.size, 0, none⟩ = some (.slice A50 g0.length c50) := (blk_cell (BKG.out) 0).trans rfl
  have zG_1 : w8.cell? ⟨w5.heap.size, 1, none⟩ = some (.slice A51 g1.length c51) := (blk_cell (BKG.out) 1).trans rfl
  have zG_2 : w8.cell? ⟨w5.heap.size, 2, none⟩ = some (.slice A52 g2.length c52) := (blk_cell (BKG.out) 2).trans rfl
  go_wp2_with fail
  refine (laws_markGauss.calls k _ _ l0 _ _ l1 _ _ l2 1 m0 q0 q1 q2 wr _ BR8.out (Kd.R_tight rfl X80.out) (fun k_ h_ h2_ => (X80.out.1 k_ h_.symm).1 h2_) (fun k_ h_ h2_ => (X80.out.1 k_ h_.symm).2 h2_) (Kd.R_tight rfl X81.out) (fun k_ h_ h2_ => (X81.out.1 k_ h_.symm).1 h2_) (fun k_ h_ h2_ => (X81.out.1 k_ h_.symm).2 h2_) (Kd.R_tight rfl X82.out) (fun k_ h_ h2_ => (X82.out.1 k_ h_.symm).1 h2_) (fun k_ h_ h2_ => (X82.out.1 k_ h_.symm).2 h2_) FK.out).mono ?_
  rintro e w9 ⟨rfl, o0, o1, o2, hb, hk⟩
  clear zP_0 zP_1 zP_2
  clear zW_0 zW_1 zW_2
  clear zX_0 zX_1 zX_2
  clear zG_0 zG_1 zG_2
  have BR9 := Aside0.mk hb
  have G90 := Aside0.mk (Kd.R_lower (Kd.R_kept (Kd.R_mono (ok' := fun k_ => wx.heap.size ≤ k_ ∧ (some k_ ≠ (.slice A51 g1.length c51 : Value).ownBlock ∧ some k_ ≠ (.slice A52 g2.length c52 : Value).ownBlock)) (Kd.R_bound G80.out) (fun k_ h_ => ⟨h_.2.1, h_.1⟩)) hk (fun k_ h_ hs_ => by have h1_ := h_.1; rcases hs_ with hs_ | hs_ | hs_; (have := E40 k_ hs_; omega); (have := E41 k_ hs_; omega); (have := E42 k_ hs_; omega))) BRx.out.size)
  have G91 := Aside0.mk (Kd.R_lower (Kd.R_kept (Kd.R_mono (ok' := fun k_ => wx.heap.size ≤ k_ ∧ (some k_ ≠ (.slice A50 g0.length c50 : Value).ownBlock ∧ some k_ ≠ (.slice A52 g2.length c52 : Value).ownBlock)) (Kd.R_bound G81.out) (fun k_ h_ => ⟨h_.2.1, h_.1⟩)) hk (fun k_ h_ hs_ => by have h1_ := h_.1; rcases hs_ with hs_ | hs_ | hs_; (have := E40 k_ hs_; omega); (have := E41 k_ hs_; omega); (have := E42 k_ hs_; omega))) BRx.out.size)
  have G92 := Aside0.mk (Kd.R_lower (Kd.R_kept (Kd.R_mono (ok' := fun k_ => wx.heap.size ≤ k_ ∧ (some k_ ≠ (.slice A50 g0.length c50 : Value).ownBlock ∧ some k_ ≠ (.slice A51 g1.length c51 : Value).ownBlock)) (Kd.R_bound G82.out) (fun k_ h_ => ⟨h_.2.1, h_.1⟩)) hk (fun k_ h_ hs_ => by have h1_ := h_.1; rcases hs_ with hs_ | hs_ | hs_; (have := E40 k_ hs_; omega); (have := E41 k_ hs_; omega); (have := E42 k_ hs_; omega))) BRx.out.size)
  have n_ := Aside0.mk (blk_kept BKP.out hk (fun hs_ => by rcases hs_ with hs_ | hs_ | hs_; (have := E40 _ hs_; omega); (have := E41 _ hs_; omega); (have := E42 _ hs_; omega)))
  clear BKP
  have BKP := n_
  clear n_
  have n_ := Aside0.mk (blk_kept BKW.out hk (fun hs_ => by rcases hs_ with hs_ | hs_ | hs_; (have := E40 _ hs_; omega); (have := E41 _ hs_; omega); (have := E42 _ hs_; omega)))
  clear BKW
  have BKW := n_
  clear n_
  have n_ := Aside0.mk (blk_kept BKX.out hk (fun hs_ => by rcases hs_ with hs_ | hs_ | hs_; (have := E40 _ hs_; omega); (have := E41 _ hs_; omega); (have := E42 _ hs_; omega)))
  clear BKX
  have BKX := n_
  clear n_
  have n_ := Aside0.mk (blk_kept BKG.out hk (fun hs_ => by rcases hs_ with hs_ | hs_ | hs_; (have := E40 _ hs_; omega); (have := E41 _ hs_; omega); (have := E42 _ hs_; omega)))
  clear BKG
  have BKG := n_
  clear n_
  clear o0 o1 o2 hb hk
  have zP_0 : w9.cell? ⟨w.heap.size, 0, none⟩ = some (.slice A0 l0.length c0) := (blk_cell (BKP.out) 0).trans rfl
  have zP_1 : w9.cell? ⟨w.heap.size, 1, none⟩ = some (.slice A1 l1.length c1) := (blk_cell (BKP.out) 1).trans rfl
  have zP_2 : w9.cell? ⟨w.heap.size, 2, none⟩ = some (.slice A2 l2.length c2) := (blk_cell (BKP.out) 2).trans rfl
  have zW_0 : w9.cell? ⟨w3.heap.size, 0, none⟩ = some (.slice A30 g0.length c30) := (blk_cell (BKW.out) 0).trans rfl
  have zW_1 : w9.cell? ⟨w3.heap.size, 1, none⟩ = some (.slice A31 g1.length c31) := (blk_cell (BKW.out) 1).trans rfl
  have zW_2 : w9.cell? ⟨w3.heap.size, 2, none⟩ = some (.slice A32 g2.length c32) := (blk_cell (BKW.out) 2).trans rfl
  have zX_0 : w9.cell? ⟨w4.heap.size, 0, none⟩ = some (.slice A40 l0.length c40) := (blk_cell (BKX.out) 0).trans rfl
  have zX_1 : w9.cell? ⟨w4.heap.size, 1, none⟩ = some (.slice A41 l1.length c41) := (blk_cell (BKX.out) 1).trans rfl
  have zX_2 : w9.cell? ⟨w4.heap.size, 2, none⟩ = some (.slice A42 l2.length c42) := (blk_cell (BKX.out) 2).trans rfl
  have zG_0 : w9.cell? ⟨w5.heap.size, 0, none⟩ = some (.slice A50 g0.length c50) := (blk_cell (BKG.out) 0).trans rfl
  have zG_1 : w9.cell? ⟨w5.heap.size, 1, none⟩ = some (.slice A51 g1.length c51) := (blk_cell (BKG.out) 1).trans rfl
  have zG_2 : w9.cell? ⟨w5.heap.size, 2, none⟩ = some (.slice A52 g2.length c52) := (blk_cell (BKG.out) 2).trans rfl
  go_wp2_with fail
  refine (laws_eqGauss.calls k _ _ g0 _ _ g1 _ _ g2 _ _ g0 _ _ g1 _ _ g2 true _ ((Kd.R_reads' G90.out).2.2) (Kd.R_reads' G90.out).2.1 ((Kd.R_reads' G91.out).2.2) (Kd.R_reads' G91.out).2.1 ((Kd.R_reads' G92.out).2.2) (Kd.R_reads' G92.out).2.1 (Kd.C_below K0.out (BR9.out)) L0.out (Kd.C_below K1.out (BR9.out)) L1.out (Kd.C_below K2.out (BR9.out)) L2.out FE.out).mono ?_
  rintro e w10 ⟨rfl, hb⟩
  clear zP_0 zP_1 zP_2
  clear zW_0 zW_1 zW_2
  clear zX_0 zX_1 zX_2
  clear zG_0 zG_1 zG_2
  have B10 := Aside0.mk hb
  clear hb
  have BR10 := Aside0.mk (below_step BR9.out B10.out)
  have G100 := Aside0.mk (Kd.R_below G90.out B10.out)
  have G101 := Aside0.mk (Kd.R_below G91.out B10.out)
  have G102 := Aside0.mk (Kd.R_below G92.out B10.out)
  have n_ := Aside0.mk (blk_below BKP.out B10.out)
  clear BKP
  have BKP := n_
  clear n_
  have n_ := Aside0.mk (blk_below BKW.out B10.out)
  clear BKW
  have BKW := n_
  clear n_
  have n_ := Aside0.mk (blk_below BKX.out B10.out)
  clear BKX
  have BKX := n_
  clear n_
  have n_ := Aside0.mk (blk_below BKG.out B10.out)
  clear BKG
  have BKG := n_
  clear n_
  have H100 := Aside0.mk (Kd.R_mono (ok' := fun k_ => some k_ ≠ (.slice A51 g1.length c51 : Value).ownBlock ∧ some k_ ≠ (.slice A52 g2.length c52 : Value).ownBlock) G100.out (fun k_ h_ => h_.2))
  have H101 := Aside0.mk (Kd.R_mono (ok' := fun k_ => some k_ ≠ (.slice A50 g0.length c50 : Value).ownBlock ∧ some k_ ≠ (.slice A52 g2.length c52 : Value).ownBlock) G101.out (fun k_ h_ => h_.2))
  have H102 := Aside0.mk (Kd.R_mono (ok' := fun k_ => some k_ ≠ (.slice A50 g0.length c50 : Value).ownBlock ∧ some k_ ≠ (.slice A51 g1.length c51 : Value).ownBlock) G102.out (fun k_ h_ => h_.2))
  have zP_0 : w10.cell? ⟨w.heap.size, 0, none⟩ = some (.slice A0 l0.length c0) := (blk_cell (BKP.out) 0).trans rfl
  have zP_1 : w10.cell? ⟨w.heap.size, 1, none⟩ = some (.slice A1 l1.length c1) := (blk_cell (BKP.out) 1).trans rfl
  have zP_2 : w10.cell? ⟨w.heap.size, 2, none⟩ = some (.slice A2 l2.length c2) := (blk_cell (BKP.out) 2).trans rfl
  have zW_0 : w10.cell? ⟨w3.heap.size, 0, none⟩ = some (.slice A30 g0.length c30) := (blk_cell (BKW.out) 0).trans rfl
  have zW_1 : w10.cell? ⟨w3.heap.size, 1, none⟩ = some (.slice A31 g1.length c31) := (blk_cell (BKW.out) 1).trans rfl
  have zW_2 : w10.cell? ⟨w3.heap.size, 2, none⟩ = some (.slice A32 g2.length c32) := (blk_cell (BKW.out) 2).trans rfl
  have zX_0 : w10.cell? ⟨w4.heap.size, 0, none⟩ = some (.slice A40 l0.length c40) := (blk_cell (BKX.out) 0).trans rfl
  have zX_1 : w10.cell? ⟨w4.heap.size, 1, none⟩ = some (.slice A41 l1.length c41) := (blk_cell (BKX.out) 1).trans rfl
  have zX_2 : w10.cell? ⟨w4.heap.size, 2, none⟩ = some (.slice A42 l2.length c42) := (blk_cell (BKX.out) 2).trans rfl
  have zG_0 : w10.cell? ⟨w5.heap.size, 0, none⟩ = some (.slice A50 g0.length c50) := (blk_cell (BKG.out) 0).trans rfl
  have zG_1 : w10.cell? ⟨w5.heap.size, 1, none⟩ = some (.slice A51 g1.length c51) := (blk_cell (BKG.out) 1).trans rfl
  have zG_2 : w10.cell? ⟨w5.heap.size, 2, none⟩ = some (.slice A52 g2.length c52) := (blk_cell (BKG.out) 2).trans rfl
  go_wp2_with fail
  refine (laws_markGauss.calls k _ _ g0 _ _ g1 _ _ g2 1 m p0 p1 p2 wr _ BR10.out (Kd.R_tight rfl H100.out) (fun k_ h_ h2_ => (H100.out.1 k_ h_.symm).1 h2_) (fun k_ h_ h2_ => (H100.out.1 k_ h_.symm).2 h2_) (Kd.R_tight rfl H101.out) (fun k_ h_ h2_ => (H101.out.1 k_ h_.symm).1 h2_) (fun k_ h_ h2_ => (H101.out.1 k_ h_.symm).2 h2_) (Kd.R_tight rfl H102.out) (fun k_ h_ h2_ => (H102.out.1 k_ h_.symm).1 h2_) (fun k_ h_ h2_ => (H102.out.1 k_ h_.symm).2 h2_) FM.out).mono ?_
  rintro e w11 ⟨rfl, o0, o1, o2, hb, hk⟩
  clear zP_0 zP_1 zP_2
  clear zW_0 zW_1 zW_2
  clear zX_0 zX_1 zX_2
  clear zG_0 zG_1 zG_2
  have BR11 := Aside0.mk hb
  have M110 := Aside0.mk o0
  have M111 := Aside0.mk o1
  have M112 := Aside0.mk o2
  have n_ := Aside0.mk (blk_kept BKP.out hk (fun hs_ => by rcases hs_ with hs_ | hs_ | hs_; (have := E50 _ hs_; omega); (have := E51 _ hs_; omega); (have := E52 _ hs_; omega)))
  clear BKP
  have BKP := n_
  clear n_
  have n_ := Aside0.mk (blk_kept BKW.out hk (fun hs_ => by rcases hs_ with hs_ | hs_ | hs_; (have := E50 _ hs_; omega); (have := E51 _ hs_; omega); (have := E52 _ hs_; omega)))
  clear BKW
  have BKW := n_
  clear n_
  have n_ := Aside0.mk (blk_kept BKX.out hk (fun hs_ => by rcases hs_ with hs_ | hs_ | hs_; (have := E50 _ hs_; omega); (have := E51 _ hs_; omega); (have := E52 _ hs_; omega)))
  clear BKX
  have BKX := n_
  clear n_
  have n_ := Aside0.mk (blk_kept BKG.out hk (fun hs_ => by rcases hs_ with hs_ | hs_ | hs_; (have := E50 _ hs_; omega); (have := E51 _ hs_; omega); (have := E52 _ hs_; omega)))
  clear BKG
  have BKG := n_
  clear n_
  clear o0 o1 o2 hb hk
  have zP_0 : w11.cell? ⟨w.heap.size, 0, none⟩ = some (.slice A0 l0.length c0) := (blk_cell (BKP.out) 0).trans rfl
  have zP_1 : w11.cell? ⟨w.heap.size, 1, none⟩ = some (.slice A1 l1.length c1) := (blk_cell (BKP.out) 1).trans rfl
  have zP_2 : w11.cell? ⟨w.heap.size, 2, none⟩ = some (.slice A2 l2.length c2) := (blk_cell (BKP.out) 2).trans rfl
  have zW_0 : w11.cell? ⟨w3.heap.size, 0, none⟩ = some (.slice A30 g0.length c30) := (blk_cell (BKW.out) 0).trans rfl
  have zW_1 : w11.cell? ⟨w3.heap.size, 1, none⟩ = some (.slice A31 g1.length c31) := (blk_cell (BKW.out) 1).trans rfl
  have zW_2 : w11.cell? ⟨w3.heap.size, 2, none⟩ = some (.slice A32 g2.length c32) := (blk_cell (BKW.out) 2).trans rfl
  have zX_0 : w11.cell? ⟨w4.heap.size, 0, none⟩ = some (.slice A40 l0.length c40) := (blk_cell (BKX.out) 0).trans rfl
  have zX_1 : w11.cell? ⟨w4.heap.size, 1, none⟩ = some (.slice A41 l1.length c41) := (blk_cell (BKX.out) 1).trans rfl
  have zX_2 : w11.cell? ⟨w4.heap.size, 2, none⟩ = some (.slice A42 l2.length c42) := (blk_cell (BKX.out) 2).trans rfl
  have zG_0 : w11.cell? ⟨w5.heap.size, 0, none⟩ = some (.slice A50 g0.length c50) := (blk_cell (BKG.out) 0).trans rfl
  have zG_1 : w11.cell? ⟨w5.heap.size, 1, none⟩ = some (.slice A51 g1.length c51) := (blk_cell (BKG.out) 1).trans rfl
  have zG_2 : w11.cell? ⟨w5.heap.size, 2, none⟩ = some (.slice A52 g2.length c52) := (blk_cell (BKG.out) 2).trans rfl
  go_wp2_with fail
  have e0_ := (Kd.R_reads' M110.out).1
  have e1_ := (Kd.R_reads' M111.out).1
  have e2_ := (Kd.R_reads' M112.out).1
  have hh_ := laws_heldGauss.calls k _ _ p0 _ _ p1 _ _ p2 1 m _ (Kd.R_reads' M110.out).2.2 (by rw [← e0_]; exact (Kd.R_reads' M110.out).2.1) (Kd.R_reads' M111.out).2.2 (by rw [← e1_]; exact (Kd.R_reads' M111.out).2.1) (Kd.R_reads' M112.out).2.2 (by rw [← e2_]; exact (Kd.R_reads' M112.out).2.1) FH.out
  rw [← e0_, ← e1_, ← e2_] at hh_
  clear e0_ e1_ e2_
  refine hh_.mono ?_
  clear hh_
  rintro e w12 ⟨rfl, hb⟩
  clear zP_0 zP_1 zP_2
  clear zW_0 zW_1 zW_2
  clear zX_0 zX_1 zX_2
  clear zG_0 zG_1 zG_2
  have B12 := Aside0.mk hb
  clear hb
  have BR12 := Aside0.mk (below_step BR11.out B12.out)
  have M120 := Aside0.mk (Kd.R_below M110.out B12.out)
  have M121 := Aside0.mk (Kd.R_below M111.out B12.out)
  have M122 := Aside0.mk (Kd.R_below M112.out B12.out)
  have n_ := Aside0.mk (blk_below BKP.out B12.out)
  clear BKP
  have BKP := n_
  clear n_
  have n_ := Aside0.mk (blk_below BKW.out B12.out)
  clear BKW
  have BKW := n_
  clear n_
  have n_ := Aside0.mk (blk_below BKX.out B12.out)
  clear BKX
  have BKX := n_
  clear n_
  have n_ := Aside0.mk (blk_below BKG.out B12.out)
  clear BKG
  have BKG := n_
  clear n_
  have zP_0 : w12.cell? ⟨w.heap.size, 0, none⟩ = some (.slice A0 l0.length c0) := (blk_cell (BKP.out) 0).trans rfl
  have zP_1 : w12.cell? ⟨w.heap.size, 1, none⟩ = some (.slice A1 l1.length c1) := (blk_cell (BKP.out) 1).trans rfl
  have zP_2 : w12.cell? ⟨w.heap.size, 2, none⟩ = some (.slice A2 l2.length c2) := (blk_cell (BKP.out) 2).trans rfl
  have zW_0 : w12.cell? ⟨w3.heap.size, 0, none⟩ = some (.slice A30 g0.length c30) := (blk_cell (BKW.out) 0).trans rfl
  have zW_1 : w12.cell? ⟨w3.heap.size, 1, none⟩ = some (.slice A31 g1.length c31) := (blk_cell (BKW.out) 1).trans rfl
  have zW_2 : w12.cell? ⟨w3.heap.size, 2, none⟩ = some (.slice A32 g2.length c32) := (blk_cell (BKW.out) 2).trans rfl
  have zX_0 : w12.cell? ⟨w4.heap.size, 0, none⟩ = some (.slice A40 l0.length c40) := (blk_cell (BKX.out) 0).trans rfl
  have zX_1 : w12.cell? ⟨w4.heap.size, 1, none⟩ = some (.slice A41 l1.length c41) := (blk_cell (BKX.out) 1).trans rfl
  have zX_2 : w12.cell? ⟨w4.heap.size, 2, none⟩ = some (.slice A42 l2.length c42) := (blk_cell (BKX.out) 2).trans rfl
  have zG_0 : w12.cell? ⟨w5.heap.size, 0, none⟩ = some (.slice A50 g0.length c50) := (blk_cell (BKG.out) 0).trans rfl
  have zG_1 : w12.cell? ⟨w5.heap.size, 1, none⟩ = some (.slice A51 g1.length c51) := (blk_cell (BKG.out) 1).trans rfl
  have zG_2 : w12.cell? ⟨w5.heap.size, 2, none⟩ = some (.slice A52 g2.length c52) := (blk_cell (BKG.out) 2).trans rfl
  go_wp2_with fail
  refine (laws_toGauss.calls k _ _ l0 _ _ l1 _ _ l2 l0 l1 l2 _ (Kd.C_below HA0.out (below_then BW.out BW.out.size (BR12.out))) HC0.out (Kd.C_below HA1.out (below_then BW.out BW.out.size (BR12.out))) HC1.out (Kd.C_below HA2.out (below_then BW.out BW.out.size (BR12.out))) HC2.out FT.out).mono ?_
  rintro e w13 ⟨v130, v131, v132, rfl, o0, o1, o2, hb⟩
  clear zP_0 zP_1 zP_2
  clear zW_0 zW_1 zW_2
  clear zX_0 zX_1 zX_2
  clear zG_0 zG_1 zG_2
  have R130 := Aside0.mk o0
  have R131 := Aside0.mk o1
  have R132 := Aside0.mk o2
  have B13 := Aside0.mk hb
  clear o0 o1 o2 hb
  obtain ⟨A130, c130, rfl⟩ := Kd.R_slice R130.out
  obtain ⟨A131, c131, rfl⟩ := Kd.R_slice R131.out
  obtain ⟨A132, c132, rfl⟩ := Kd.R_slice R132.out
  have BR13 := Aside0.mk (below_step BR12.out B13.out)
  have M130 := Aside0.mk (Kd.R_below M120.out B13.out)
  have M131 := Aside0.mk (Kd.R_below M121.out B13.out)
  have M132 := Aside0.mk (Kd.R_below M122.out B13.out)
  have n_ := Aside0.mk (blk_below BKP.out B13.out)
  clear BKP
  have BKP := n_
  clear n_
  have n_ := Aside0.mk (blk_below BKW.out B13.out)
  clear BKW
  have BKW := n_
  clear n_
  have n_ := Aside0.mk (blk_below BKX.out B13.out)
  clear BKX
  have BKX := n_
  clear n_
  have n_ := Aside0.mk (blk_below BKG.out B13.out)
  clear BKG
  have BKG := n_
  clear n_
  have zP_0 : w13.cell? ⟨w.heap.size, 0, none⟩ = some (.slice A0 l0.length c0) := (blk_cell (BKP.out) 0).trans rfl
  have zP_1 : w13.cell? ⟨w.heap.size, 1, none⟩ = some (.slice A1 l1.length c1) := (blk_cell (BKP.out) 1).trans rfl
  have zP_2 : w13.cell? ⟨w.heap.size, 2, none⟩ = some (.slice A2 l2.length c2) := (blk_cell (BKP.out) 2).trans rfl
  have zW_0 : w13.cell? ⟨w3.heap.size, 0, none⟩ = some (.slice A30 g0.length c30) := (blk_cell (BKW.out) 0).trans rfl
  have zW_1 : w13.cell? ⟨w3.heap.size, 1, none⟩ = some (.slice A31 g1.length c31) := (blk_cell (BKW.out) 1).trans rfl
  have zW_2 : w13.cell? ⟨w3.heap.size, 2, none⟩ = some (.slice A32 g2.length c32) := (blk_cell (BKW.out) 2).trans rfl
  have zX_0 : w13.cell? ⟨w4.heap.size, 0, none⟩ = some (.slice A40 l0.length c40) := (blk_cell (BKX.out) 0).trans rfl
  have zX_1 : w13.cell? ⟨w4.heap.size, 1, none⟩ = some (.slice A41 l1.length c41) := (blk_cell (BKX.out) 1).trans rfl
  have zX_2 : w13.cell? ⟨w4.heap.size, 2, none⟩ = some (.slice A42 l2.length c42) := (blk_cell (BKX.out) 2).trans rfl
  have zG_0 : w13.cell? ⟨w5.heap.size, 0, none⟩ = some (.slice A50 g0.length c50) := (blk_cell (BKG.out) 0).trans rfl
  have zG_1 : w13.cell? ⟨w5.heap.size, 1, none⟩ = some (.slice A51 g1.length c51) := (blk_cell (BKG.out) 1).trans rfl
  have zG_2 : w13.cell? ⟨w5.heap.size, 2, none⟩ = some (.slice A52 g2.length c52) := (blk_cell (BKG.out) 2).trans rfl
  go_wp2_with fail
  refine (impl_SwitchChord.calls k _ _ l0 _ _ l1 _ _ l2 i g0 g1 g2 c _ (Kd.R_reads' R130.out).2.2 (Kd.R_reads' R130.out).2.1 (Kd.R_reads' R131.out).2.2 (Kd.R_reads' R131.out).2.1 (Kd.R_reads' R132.out).2.2 (Kd.R_reads' R132.out).2.1 FI.out).mono ?_
  rintro e w14 ⟨v140, v141, v142, rfl, o0, o1, o2, hb⟩
  clear zP_0 zP_1 zP_2
  clear zW_0 zW_1 zW_2
  clear zX_0 zX_1 zX_2
  clear zG_0 zG_1 zG_2
  have R140 := Aside0.mk o0
  have R141 := Aside0.mk o1
  have R142 := Aside0.mk o2
  have B14 := Aside0.mk hb
  clear o0 o1 o2 hb
  obtain ⟨A140, c140, rfl⟩ := Kd.R_slice R140.out
  obtain ⟨A141, c141, rfl⟩ := Kd.R_slice R141.out
  obtain ⟨A142, c142, rfl⟩ := Kd.R_slice R142.out
  have BR14 := Aside0.mk (below_step BR13.out B14.out)
  have M140 := Aside0.mk (Kd.R_below M130.out B14.out)
  have M141 := Aside0.mk (Kd.R_below M131.out B14.out)
  have M142 := Aside0.mk (Kd.R_below M132.out B14.out)
  have n_ := Aside0.mk (blk_below BKP.out B14.out)
  clear BKP
  have BKP := n_
  clear n_
  have n_ := Aside0.mk (blk_below BKW.out B14.out)
  clear BKW
  have BKW := n_
  clear n_
  have n_ := Aside0.mk (blk_below BKX.out B14.out)
  clear BKX
  have BKX := n_
  clear n_
  have n_ := Aside0.mk (blk_below BKG.out B14.out)
  clear BKG
  have BKG := n_
  clear n_
  have zP_0 : w14.cell? ⟨w.heap.size, 0, none⟩ = some (.slice A0 l0.length c0) := (blk_cell (BKP.out) 0).trans rfl
  have zP_1 : w14.cell? ⟨w.heap.size, 1, none⟩ = some (.slice A1 l1.length c1) := (blk_cell (BKP.out) 1).trans rfl
  have zP_2 : w14.cell? ⟨w.heap.size, 2, none⟩ = some (.slice A2 l2.length c2) := (blk_cell (BKP.out) 2).trans rfl
  have zW_0 : w14.cell? ⟨w3.heap.size, 0, none⟩ = some (.slice A30 g0.length c30) := (blk_cell (BKW.out) 0).trans rfl
  have zW_1 : w14.cell? ⟨w3.heap.size, 1, none⟩ = some (.slice A31 g1.length c31) := (blk_cell (BKW.out) 1).trans rfl
  have zW_2 : w14.cell? ⟨w3.heap.size, 2, none⟩ = some (.slice A32 g2.length c32) := (blk_cell (BKW.out) 2).trans rfl
  have zX_0 : w14.cell? ⟨w4.heap.size, 0, none⟩ = some (.slice A40 l0.length c40) := (blk_cell (BKX.out) 0).trans rfl
  have zX_1 : w14.cell? ⟨w4.heap.size, 1, none⟩ = some (.slice A41 l1.length c41) := (blk_cell (BKX.out) 1).trans rfl
  have zX_2 : w14.cell? ⟨w4.heap.size, 2, none⟩ = some (.slice A42 l2.length c42) := (blk_cell (BKX.out) 2).trans rfl
  have zG_0 : w14.cell? ⟨w5.heap.size, 0, none⟩ = some (.slice A50 g0.length c50) := (blk_cell (BKG.out) 0).trans rfl
  have zG_1 : w14.cell? ⟨w5.heap.size, 1, none⟩ = some (.slice A51 g1.length c51) := (blk_cell (BKG.out) 1).trans rfl
  have zG_2 : w14.cell? ⟨w5.heap.size, 2, none⟩ = some (.slice A52 g2.length c52) := (blk_cell (BKG.out) 2).trans rfl
  have zPa_0 : (w14.alloc (.cells #[.slice A140 g0.length c140, .slice A141 g1.length c141, .slice A142 g2.length c142] 49)).cell? ⟨w.heap.size, 0, none⟩ = some (.slice A0 l0.length c0) := (blk_cell (blk_alloc BKP.out _) 0).trans rfl
  have zPa_1 : (w14.alloc (.cells #[.slice A140 g0.length c140, .slice A141 g1.length c141, .slice A142 g2.length c142] 49)).cell? ⟨w.heap.size, 1, none⟩ = some (.slice A1 l1.length c1) := (blk_cell (blk_alloc BKP.out _) 1).trans rfl
  have zPa_2 : (w14.alloc (.cells #[.slice A140 g0.length c140, .slice A141 g1.length c141, .slice A142 g2.length c142] 49)).cell? ⟨w.heap.size, 2, none⟩ = some (.slice A2 l2.length c2) := (blk_cell (blk_alloc BKP.out _) 2).trans rfl
  have zWa_0 : (w14.alloc (.cells #[.slice A140 g0.length c140, .slice A141 g1.length c141, .slice A142 g2.length c142] 49)).cell? ⟨w3.heap.size, 0, none⟩ = some (.slice A30 g0.length c30) := (blk_cell (blk_alloc BKW.out _) 0).trans rfl
  have zWa_1 : (w14.alloc (.cells #[.slice A140 g0.length c140, .slice A141 g1.length c141, .slice A142 g2.length c142] 49)).cell? ⟨w3.heap.size, 1, none⟩ = some (.slice A31 g1.length c31) := (blk_cell (blk_alloc BKW.out _) 1).trans rfl
  have zWa_2 : (w14.alloc (.cells #[.slice A140 g0.length c140, .slice A141 g1.length c141, .slice A142 g2.length c142] 49)).cell? ⟨w3.heap.size, 2, none⟩ = some (.slice A32 g2.length c32) := (blk_cell (blk_alloc BKW.out _) 2).trans rfl
  have zXa_0 : (w14.alloc (.cells #[.slice A140 g0.length c140, .slice A141 g1.length c141, .slice A142 g2.length c142] 49)).cell? ⟨w4.heap.size, 0, none⟩ = some (.slice A40 l0.length c40) := (blk_cell (blk_alloc BKX.out _) 0).trans rfl
  have zXa_1 : (w14.alloc (.cells #[.slice A140 g0.length c140, .slice A141 g1.length c141, .slice A142 g2.length c142] 49)).cell? ⟨w4.heap.size, 1, none⟩ = some (.slice A41 l1.length c41) := (blk_cell (blk_alloc BKX.out _) 1).trans rfl
  have zXa_2 : (w14.alloc (.cells #[.slice A140 g0.length c140, .slice A141 g1.length c141, .slice A142 g2.length c142] 49)).cell? ⟨w4.heap.size, 2, none⟩ = some (.slice A42 l2.length c42) := (blk_cell (blk_alloc BKX.out _) 2).trans rfl
  have zGa_0 : (w14.alloc (.cells #[.slice A140 g0.length c140, .slice A141 g1.length c141, .slice A142 g2.length c142] 49)).cell? ⟨w5.heap.size, 0, none⟩ = some (.slice A50 g0.length c50) := (blk_cell (blk_alloc BKG.out _) 0).trans rfl
  have zGa_1 : (w14.alloc (.cells #[.slice A140 g0.length c140, .slice A141 g1.length c141, .slice A142 g2.length c142] 49)).cell? ⟨w5.heap.size, 1, none⟩ = some (.slice A51 g1.length c51) := (blk_cell (blk_alloc BKG.out _) 1).trans rfl
  have zGa_2 : (w14.alloc (.cells #[.slice A140 g0.length c140, .slice A141 g1.length c141, .slice A142 g2.length c142] 49)).cell? ⟨w5.heap.size, 2, none⟩ = some (.slice A52 g2.length c52) := (blk_cell (blk_alloc BKG.out _) 2).trans rfl
  have zYa_0 : (w14.alloc (.cells #[.slice A140 g0.length c140, .slice A141 g1.length c141, .slice A142 g2.length c142] 49)).cell? ⟨w14.heap.size, 0, none⟩ = some (.slice A140 g0.length c140) := (blk_cell (blk_new _ _) 0).trans rfl
  have zYa_1 : (w14.alloc (.cells #[.slice A140 g0.length c140, .slice A141 g1.length c141, .slice A142 g2.length c142] 49)).cell? ⟨w14.heap.size, 1, none⟩ = some (.slice A141 g1.length c141) := (blk_cell (blk_new _ _) 1).trans rfl
  have zYa_2 : (w14.alloc (.cells #[.slice A140 g0.length c140, .slice A141 g1.length c141, .slice A142 g2.length c142] 49)).cell? ⟨w14.heap.size, 2, none⟩ = some (.slice A142 g2.length c142) := (blk_cell (blk_new _ _) 2).trans rfl
  go_wp2_with fail
  obtain ⟨wy, hwy_⟩ : ∃ x_ : World, w14.alloc (.cells #[.slice A140 g0.length c140, .slice A141 g1.length c141, .slice A142 g2.length c142] 49) = x_ := ⟨_, rfl⟩
  rw [hwy_]
  have Bwy : Aside0 (Below w14.heap.size w14 wy) := ⟨by rw [← hwy_]; exact below_alloc (Below.refl _ _) _⟩
  have BKY : Aside0 (wy.heap[w14.heap.size]? = some (.cells #[.slice A140 g0.length c140, .slice A141 g1.length c141, .slice A142 g2.length c142] 49 (0, 0))) := ⟨by rw [← hwy_]; exact blk_new _ _⟩
  clear hwy_
  have n_ := Aside0.mk (blk_below BKP.out Bwy.out)
  clear BKP
  have BKP := n_
  clear n_
  have n_ := Aside0.mk (blk_below BKW.out Bwy.out)
  clear BKW
  have BKW := n_
  clear n_
  have n_ := Aside0.mk (blk_below BKX.out Bwy.out)
  clear BKX
  have BKX := n_
  clear n_
  have n_ := Aside0.mk (blk_below BKG.out Bwy.out)
  clear BKG
  have BKG := n_
  clear n_
  have sPwy := blk_lt BKP.out
  have sWwy := blk_lt BKW.out
  have sXwy := blk_lt BKX.out
  have sGwy := blk_lt BKG.out
  have sYwy := blk_lt BKY.out
  refine (laws_eqGauss.calls k _ _ g0 _ _ g1 _ _ g2 _ _ g0 _ _ g1 _ _ g2 true _ (Kd.C_below (Kd.R_reads' R140.out).2.2 Bwy.out) (Kd.R_reads' R140.out).2.1 (Kd.C_below (Kd.R_reads' R141.out).2.2 Bwy.out) (Kd.R_reads' R141.out).2.1 (Kd.C_below (Kd.R_reads' R142.out).2.2 Bwy.out) (Kd.R_reads' R142.out).2.1 (Kd.C_below K0.out (below_step BR14.out Bwy.out)) L0.out (Kd.C_below K1.out (below_step BR14.out Bwy.out)) L1.out (Kd.C_below K2.out (below_step BR14.out Bwy.out)) L2.out FE.out).mono ?_
  rintro e w15 ⟨rfl, hb⟩
  clear zP_0 zP_1 zP_2
  clear zW_0 zW_1 zW_2
  clear zX_0 zX_1 zX_2
  clear zG_0 zG_1 zG_2
  clear zPa_0 zPa_1 zPa_2
  clear zWa_0 zWa_1 zWa_2
  clear zXa_0 zXa_1 zXa_2
  clear zGa_0 zGa_1 zGa_2
  clear zYa_0 zYa_1 zYa_2
  have B15 := Aside0.mk hb
  clear hb
  have BRy := Aside0.mk (below_step BR14.out Bwy.out)
  have My0 := Aside0.mk (Kd.R_below M140.out Bwy.out)
  have My1 := Aside0.mk (Kd.R_below M141.out Bwy.out)
  have My2 := Aside0.mk (Kd.R_below M142.out Bwy.out)
  have BR15 := Aside0.mk (below_step BRy.out B15.out)
  have M150 := Aside0.mk (Kd.R_below My0.out B15.out)
  have M151 := Aside0.mk (Kd.R_below My1.out B15.out)
  have M152 := Aside0.mk (Kd.R_below My2.out B15.out)
  have n_ := Aside0.mk (blk_below BKP.out B15.out)
  clear BKP
  have BKP := n_
  clear n_
  have n_ := Aside0.mk (blk_below BKW.out B15.out)
  clear BKW
  have BKW := n_
  clear n_
  have n_ := Aside0.mk (blk_below BKX.out B15.out)
  clear BKX
  have BKX := n_
  clear n_
  have n_ := Aside0.mk (blk_below BKG.out B15.out)
  clear BKG
  have BKG := n_
  clear n_
  have n_ := Aside0.mk (blk_below BKY.out B15.out)
  clear BKY
  have BKY := n_
  clear n_
  have zP_0 : w15.cell? ⟨w.heap.size, 0, none⟩ = some (.slice A0 l0.length c0) := (blk_cell (BKP.out) 0).trans rfl
  have zP_1 : w15.cell? ⟨w.heap.size, 1, none⟩ = some (.slice A1 l1.length c1) := (blk_cell (BKP.out) 1).trans rfl
  have zP_2 : w15.cell? ⟨w.heap.size, 2, none⟩ = some (.slice A2 l2.length c2) := (blk_cell (BKP.out) 2).trans rfl
  have zW_0 : w15.cell? ⟨w3.heap.size, 0, none⟩ = some (.slice A30 g0.length c30) := (blk_cell (BKW.out) 0).trans rfl
  have zW_1 : w15.cell? ⟨w3.heap.size, 1, none⟩ = some (.slice A31 g1.length c31) := (blk_cell (BKW.out) 1).trans rfl
  have zW_2 : w15.cell? ⟨w3.heap.size, 2, none⟩ = some (.slice A32 g2.length c32) := (blk_cell (BKW.out) 2).trans rfl
  have zX_0 : w15.cell? ⟨w4.heap.size, 0, none⟩ = some (.slice A40 l0.length c40) := (blk_cell (BKX.out) 0).trans rfl
  have zX_1 : w15.cell? ⟨w4.heap.size, 1, none⟩ = some (.slice A41 l1.length c41) := (blk_cell (BKX.out) 1).trans rfl
  have zX_2 : w15.cell? ⟨w4.heap.size, 2, none⟩ = some (.slice A42 l2.length c42) := (blk_cell (BKX.out) 2).trans rfl
  have zG_0 : w15.cell? ⟨w5.heap.size, 0, none⟩ = some (.slice A50 g0.length c50) := (blk_cell (BKG.out) 0).trans rfl
  have zG_1 : w15.cell? ⟨w5.heap.size, 1, none⟩ = some (.slice A51 g1.length c51) := (blk_cell (BKG.out) 1).trans rfl
  have zG_2 : w15.cell? ⟨w5.heap.size, 2, none⟩ = some (.slice A52 g2.length c52) := (blk_cell (BKG.out) 2).trans rfl
  have zY_0 : w15.cell? ⟨w14.heap.size, 0, none⟩ = some (.slice A140 g0.length c140) := (blk_cell (BKY.out) 0).trans rfl
  have zY_1 : w15.cell? ⟨w14.heap.size, 1, none⟩ = some (.slice A141 g1.length c141) := (blk_cell (BKY.out) 1).trans rfl
  have zY_2 : w15.cell? ⟨w14.heap.size, 2, none⟩ = some (.slice A142 g2.length c142) := (blk_cell (BKY.out) 2).trans rfl
  go_wp2_with fail
  have e0_ := (Kd.R_reads' M150.out).1
  have e1_ := (Kd.R_reads' M151.out).1
  have e2_ := (Kd.R_reads' M152.out).1
  have hh_ := laws_heldGauss.calls k _ _ p0 _ _ p1 _ _ p2 1 m _ (Kd.R_reads' M150.out).2.2 (by rw [← e0_]; exact (Kd.R_reads' M150.out).2.1) (Kd.R_reads' M151.out).2.2 (by rw [← e1_]; exact (Kd.R_reads' M151.out).2.1) (Kd.R_reads' M152.out).2.2 (by rw [← e2_]; exact (Kd.R_reads' M152.out).2.1) FH.out
  rw [← e0_, ← e1_, ← e2_] at hh_
  clear e0_ e1_ e2_
  refine hh_.mono ?_
  clear hh_
  rintro e w16 ⟨rfl, hb⟩
  clear zP_0 zP_1 zP_2
  clear zW_0 zW_1 zW_2
  clear zX_0 zX_1 zX_2
  clear zG_0 zG_1 zG_2
  clear zY_0 zY_1 zY_2
  have B16 := Aside0.mk hb
  clear hb
  have BR16 := Aside0.mk (below_step BR15.out B16.out)
  have n_ := Aside0.mk (blk_below BKP.out B16.out)
  clear BKP
  have BKP := n_
  clear n_
  have n_ := Aside0.mk (blk_below BKW.out B16.out)
  clear BKW
  have BKW := n_
  clear n_
  have n_ := Aside0.mk (blk_below BKX.out B16.out)
  clear BKX
  have BKX := n_
  clear n_
  have n_ := Aside0.mk (blk_below BKG.out B16.out)
  clear BKG
  have BKG := n_
  clear n_
  have n_ := Aside0.mk (blk_below BKY.out B16.out)
  clear BKY
  have BKY := n_
  clear n_
  go_wp2
  go_ret
  exact ⟨rfl, below_then BW.out BW.out.size (BR16.out)⟩
set_option maxHeartbeats 4000000 in
theorem laws_FnExactSwitchChord.early (A0 : Option Addr) (c0 : Nat) (l0 : List Int) (A1 : Option Addr) (c1 : Nat) (l1 : List Int) (A2 : Option Addr) (c2 : Nat) (l2 : List Int) (i : Int) (w : World) (hr0 : Kd.C (Kd.int .i64) w A0 l0.length l0) (hc0 : l0.length ≤ c0) (hr1 : Kd.C (Kd.int .i64) w A1 l1.length l1) (hc1 : l1.length ≤ c1) (hr2 : Kd.C (Kd.int .i64) w A2 l2.length l2) (hc2 : l2.length ≤ c2) (s : Int) (hz : laws_szGauss.f l0 l1 l2 1048576 = some s) (hs : s < 0) :
    Calls Try.prog 21 #[.agg #[.slice A0 l0.length c0, .slice A1 l1.length c1, .slice A2 l2.length c2], .int .i64 i] w fun e w' => e = .returned (.bool true) ∧ Below w.heap.size w w' := by
  have huA := Try.underlying46
  have huB := Try.underlying49
  have d1 : decide (s < 0) = true := decide_eq_true hs
  go_enter Try.func21, Try.ntmps21
  go_wp2_with fail
  obtain ⟨wa, h_⟩ : ∃ x_ : World, w.alloc (.cells #[.slice A0 l0.length c0, .slice A1 l1.length c1, .slice A2 l2.length c2] 46) = x_ := ⟨_, rfl⟩
  rw [h_]
  have Bw : Below w.heap.size w wa := by rw [← h_]; exact below_alloc (Below.refl _ _) _
  refine (laws_szGauss.calls _ _ l0 _ _ l1 _ _ l2 1048576 s _ (Kd.C_below hr0 Bw) hc0 (Kd.C_below hr1 Bw) hc1 (Kd.C_below hr2 Bw) hc2 hz).mono ?_
  rintro e w1 ⟨rfl, hb⟩
  go_wp2
  go_ret
  exact ⟨rfl, below_step Bw hb⟩

end Go.Proofs.Ytckmncebedhgeaa.G
