-- Written by the session's program mk.py (which runs the kit's print.py over functions and over contracts given by hand).
import Derived.Test.YtpfhbdpmafcnfaaG0
import Derived.Test.YtpfhbdpmafcnfaaGgB
import Derived.Test.YtpfhbdpmafcnfaaGgC
import Derived.Test.YtpfhbdpmafcnfaaGgI
import Derived.Test.YtpfhbdpmafcnfaaGgL
import Derived.Test.YtpfhbdpmafcnfaaGgM
import Derived.Test.YtpfhbdpmafcnfaaGgP
import Derived.Test.YtpfhbdpmafcnfaaGgQ
import Derived.Test.YtpfhbdpmafcnfaaGgR
import Derived.Test.YtpfhbdpmafcnfaaGgS
import Derived.Test.YtpfhbdpmafcnfaaGgZ
namespace Go.Proofs.Ytpfhbdpmafcnfaa.G
open Go.RowKit Go.Maps Go.Proofs.YtpfhbdpmafcnfaaW.PrintWords Go.Proofs.YtpfhbdpmafcnfaaW.PrintLast Go.Proofs.YtpfhbdpmafcnfaaW.PrintMore
attribute [local go_sem] max2_int min2_int max_two min_two max_three min_three max_four min_four   -- for this text's walks alone
set_option linter.unusedVariables false
set_option linter.unusedSimpArgs false

/-! ### spec_SumOfWord: function 42 -/
def spec_SumOfWord.j0 : Nat → Int → List Int → Int → Bool → Option (Int × (List (S89)) × Int)
 | 0, _, _, _, _ => none
 | k + 1, x0, x1, x2, x13 => if x13 = true then (some (0, ([] : List (S89)), 2)) else ((spec_l03Empty.f x0).bind fun bt105 => ((spec_l03Put.f k bt105.1 bt105.2 x1 x2).bind fun bt109 => (some (bt109.1, bt109.2, 0))))
def spec_SumOfWord.f (k : Nat) (a0 : Int) (l1 : List Int) (a2 : Int) : Option (Int × (List (S89)) × Int) := (spec_l01Is.f k l1).bind fun t102 => (if t102 = true then ((spec_l03Prime.f a0).bind fun t103 => (if t103 = true then ((spec_l01In.f a2 0 (wrap64 (a0 - 1))).bind fun t104 => (spec_SumOfWord.j0 k a0 l1 a2 (!t104))) else (spec_SumOfWord.j0 k a0 l1 a2 true))) else (some (0, ([] : List (S89)), 1)))
theorem spec_SumOfWord.mono_l : ∀ k, (∀ y0 y1 y2 y3, LeO (spec_SumOfWord.j0 k y0 y1 y2 y3) (spec_SumOfWord.j0 (k + 1) y0 y1 y2 y3))
 | 0 => fun _ _ _ _ r h => by simp [spec_SumOfWord.j0] at h
 | k + 1 => by
  have ih0 := spec_SumOfWord.mono_l k
  ·intro y0 y1 y2 y3
   unfold spec_SumOfWord.j0
   repeat' first
   | (with_reducible exact ih0 _ _ _ _)
   | (with_reducible exact spec_l01Is.mono _ _)
   | (with_reducible exact spec_l03Put.mono _ _ _ _ _)
   | (with_reducible exact LeO.refl _)
   | (with_reducible exact LeO.none _)
   | (with_reducible refine LeO.ite ?_ ?_)
   | (with_reducible refine LeO.bind ?_ (fun _ => ?_))
   | exact ih0 _ _ _ _
   | exact spec_l01Is.mono _ _
   | exact spec_l03Put.mono _ _ _ _ _
   | exact LeO.none _
   | refine LeO.ite ?_ ?_
   | refine LeO.bind ?_ (fun _ => ?_)
theorem spec_SumOfWord.mono : ∀ a0 a1 a2 k, LeO (spec_SumOfWord.f k a0 a1 a2) (spec_SumOfWord.f (k + 1) a0 a1 a2) := by
 intro a0 a1 a2 k
 have ih0 := spec_SumOfWord.mono_l k
 unfold spec_SumOfWord.f
 repeat' first
   | (with_reducible exact ih0 _ _ _ _)
   | (with_reducible exact spec_l01Is.mono _ _)
   | (with_reducible exact spec_l03Put.mono _ _ _ _ _)
   | (with_reducible exact LeO.refl _)
   | (with_reducible exact LeO.none _)
   | (with_reducible refine LeO.ite ?_ ?_)
   | (with_reducible refine LeO.bind ?_ (fun _ => ?_))
   | exact ih0 _ _ _ _
   | exact spec_l01Is.mono _ _
   | exact spec_l03Put.mono _ _ _ _ _
   | exact LeO.none _
   | refine LeO.ite ?_ ?_
   | refine LeO.bind ?_ (fun _ => ?_)
set_option maxHeartbeats 8000000 in
set_option maxRecDepth 100000 in
theorem spec_SumOfWord.calls (k : Nat) (a0 : Int) (A1 : Option Addr) (c1 : Nat) (l1 : List Int) (a2 : Int) (r1 : Int) (r2 : List (S89)) (r3 : Int) (w : World) (hr1 : Kd.C (Kd.int .i64) w A1 l1.length l1) (hc1 : l1.length ≤ c1) (h : spec_SumOfWord.f k a0 l1 a2 = some (r1, r2, r3)) :
  Calls Try.prog 42 #[.int .i64 a0, .slice A1 l1.length c1, .int .i64 a2] w fun e w' => ∃ v1_ : Value, e = .returned (.tuple #[.agg #[.int .i64 r1, v1_], .int .i64 r3]) ∧ Kd.S k89 89 w' w.heap.size (fun _ => True) v1_ r2 ∧ Below w.heap.size w w' := by
 have hu49 := Try.underlying49
 have HR1 := Aside0.mk hr1
 have HC1 := Aside0.mk hc1
 clear hr1 hc1
 have HB := Aside0.mk (Below.refl w.heap.size w)
 have H : ((spec_l01Is.f k l1).bind fun t102 => (if t102 = true then ((spec_l03Prime.f a0).bind fun t103 => (if t103 = true then ((spec_l01In.f a2 0 (wrap64 (a0 - 1))).bind fun t104 => (spec_SumOfWord.j0 k a0 l1 a2 (!t104))) else (spec_SumOfWord.j0 k a0 l1 a2 true))) else (some (0, ([] : List (S89)), 1)))) = some (r1, r2, r3) := h
 clear h
 replace H := Option.bind_eq_some_iff.mp H
 obtain ⟨t102, A40, H⟩ := H
 replace H : (if t102 = true then ((spec_l03Prime.f a0).bind fun t103 => (if t103 = true then ((spec_l01In.f a2 0 (wrap64 (a0 - 1))).bind fun t104 => (spec_SumOfWord.j0 k a0 l1 a2 (!t104))) else (spec_SumOfWord.j0 k a0 l1 a2 true))) else (some (0, ([] : List (S89)), 1))) = some (r1, r2, r3) := H
 have A4 := Aside0.mk A40
 clear A40
 by_cases c5 : t102 = true
 ·subst c5
  have H1 : ((spec_l03Prime.f a0).bind fun t103 => (if t103 = true then ((spec_l01In.f a2 0 (wrap64 (a0 - 1))).bind fun t104 => (spec_SumOfWord.j0 k a0 l1 a2 (!t104))) else (spec_SumOfWord.j0 k a0 l1 a2 true))) = some (r1, r2, r3) := by rw [if_pos rfl] at H; exact H
  clear H
  have H := H1
  clear H1
  have HC6 := Aside0.mk H
  clear H
  go_enter Try.func42, Try.ntmps42
  go_upto_region 3 with (first | ((with_reducible refine gate_dst (N := 6) rfl ?_); refine box_event ?hg (N := 6) ?hd (cs := #[.int .i64 0, .slice none 0 0]) (t := 49) ?hr ?_; (case hd => rfl); (case hg => rfl); (case hr => first | (go_simp; done) | (go_simp; rfl)); intro gb101 hg w7 hbox hb; have n0_ := Aside0.mk (below_step (by repeat (first | (with_reducible first | exact HB.out | apply below_alloc | apply pw_below_drewN | apply below_drew1) | exact HB.out)) hb); have n1_ := Aside0.mk (hbox); have n2_ := Aside0.mk ((by rw [hg]; exact (below_size (by repeat (first | (with_reducible first | exact HB.out | apply below_alloc | apply pw_below_drewN | apply below_drew1) | exact HB.out))) : w.heap.size ≤ gb101)); have n3_ := Aside0.mk ((by rw [hg]; exact (below_size (by repeat (first | (with_reducible first | exact HB.out | apply below_alloc | apply pw_below_drewN | apply below_drew1) | exact HB.out))) : w.heap.size ≤ gb101)); clear HB; have HB := n0_; have BK101 := n1_; have GW101 := n2_; have GE101 := n3_; clear n0_ n1_ n2_ n3_; clear hb hbox hg) | ((with_reducible refine gate_callee (f := 83) rfl ?_); refine goesL_ (some 10) rfl rfl Try.func83 (by kernel_rfl) rfl #[.slice A1 l1.length c1] rfl (by (try simp only [List.map_toArray, List.map_cons, List.map_nil]); first | done | rfl | (simp only [List.length_drop, List.length_take]; rfl)) ?_; (with_reducible refine (spec_l01Is.calls k _ _ l1 true _ ?side1 ?side2 A4.out).mono ?_); (case side1 => repeat (first | exact (Kd.C_below HR1.out HB.out) | (with_reducible refine Kd.C_alloc ?_ _) | (with_reducible refine Kd.C_drewN ?_ _) | (with_reducible refine Kd.C_drew ?_))); (case side2 => exact HC1.out); rintro e w8 ⟨rfl, hb⟩; refine ⟨_, rfl, ?_⟩; have n0_ := Aside0.mk (blk_below (g := gb101) (o := .cells #[.int .i64 0, .slice none 0 0] 49 (0, 0)) (by (with_reducible repeat (first | refine blk_drewN ?_ _ | refine blk_drew ?_ | refine blk_alloc ?_ _)); exact BK101.out) hb); have n1_ := Aside0.mk (below_step (by repeat (first | (with_reducible first | exact HB.out | apply below_alloc | apply pw_below_drewN | apply below_drew1 | refine below_set ?_ GE101.out) | exact HB.out)) hb); clear BK101; clear HB; have BK101 := n0_; have HB := n1_; clear n0_ n1_; (try clear hb); (try clear hb2); (try clear hk); (try clear hi)))
  (try simp only [Act.put, List.setIfInBounds_toArray, List.set_cons_zero, List.set_cons_succ])
  go_cut [13] (fun v13 wc => ∃ (kq : Nat) (x13_5 : Bool), v13 = .bool x13_5 ∧ Aside0 (spec_SumOfWord.j0 kq a0 l1 a2 x13_5 = some (r1, r2, r3)) ∧ Aside0 (kq ≤ k) ∧ Aside0 (wc.heap[gb101]? = some (.cells #[.int .i64 0, (.slice none 0 0)] 49 (0, 0))) ∧ Aside0 (Below w.heap.size w wc))
  case first =>
   have H := HC6.out
   clear HC6
   replace H := Option.bind_eq_some_iff.mp H
   obtain ⟨t103, A90, H⟩ := H
   replace H : (if t103 = true then ((spec_l01In.f a2 0 (wrap64 (a0 - 1))).bind fun t104 => (spec_SumOfWord.j0 k a0 l1 a2 (!t104))) else (spec_SumOfWord.j0 k a0 l1 a2 true)) = some (r1, r2, r3) := H
   have A9 := Aside0.mk A90
   clear A90
   by_cases c10 : t103 = true
   ·subst c10
    have H1 : ((spec_l01In.f a2 0 (wrap64 (a0 - 1))).bind fun t104 => (spec_SumOfWord.j0 k a0 l1 a2 (!t104))) = some (r1, r2, r3) := by rw [if_pos rfl] at H; exact H
    clear H
    have H := H1
    clear H1
    replace H := Option.bind_eq_some_iff.mp H
    obtain ⟨t104, A110, H⟩ := H
    replace H : (spec_SumOfWord.j0 k a0 l1 a2 (!t104)) = some (r1, r2, r3) := H
    have A11 := Aside0.mk A110
    clear A110
    have H' := Aside0.mk H
    clear H
    go_wp2_with (first | ((with_reducible refine gate_callee (f := 58) rfl ?_); refine goesL_ (some 15) rfl rfl Try.func58 (by kernel_rfl) rfl #[.int .i64 a0] rfl (by (try simp only [List.map_toArray, List.map_cons, List.map_nil]); first | done | rfl | (simp only [List.length_drop, List.length_take]; rfl)) ?_; (with_reducible refine (spec_l03Prime.calls a0 true _ A9.out).mono ?_); rintro e w' ⟨rfl, ⟨nd, rfl⟩⟩; refine ⟨_, rfl, ?_⟩) | (go_at_call 59; (with_reducible refine (spec_l01In.calls a2 0 (wrap64 (a0 - 1)) t104 _ A11.out).mono ?_); rintro e w' ⟨rfl, ⟨nd, rfl⟩⟩))
    go_meet
    case rel => exact ⟨_, (!t104), (by first | rfl | (simp; done) | (simp [*]; done)), H', ⟨by first | omega | exact Nat.le_refl _⟩, ⟨by (with_reducible repeat (first | refine blk_drewN ?_ _ | refine blk_drew ?_ | refine blk_alloc ?_ _)); exact BK101.out⟩, ⟨by repeat (first | (with_reducible first | exact HB.out | apply below_alloc | apply pw_below_drewN | apply below_drew1 | refine below_set ?_ GE101.out) | exact HB.out)⟩⟩
   ·replace c10 := Bool.eq_false_iff.mpr c10
    subst c10
    have H1 : (spec_SumOfWord.j0 k a0 l1 a2 true) = some (r1, r2, r3) := by rw [if_neg (show ¬ (false = true) by decide)] at H; exact H
    clear H
    have H := H1
    clear H1
    have H' := Aside0.mk H
    clear H
    go_wp2_with (first | ((with_reducible refine gate_callee (f := 58) rfl ?_); refine goesL_ (some 15) rfl rfl Try.func58 (by kernel_rfl) rfl #[.int .i64 a0] rfl (by (try simp only [List.map_toArray, List.map_cons, List.map_nil]); first | done | rfl | (simp only [List.length_drop, List.length_take]; rfl)) ?_; (with_reducible refine (spec_l03Prime.calls a0 false _ A9.out).mono ?_); rintro e w' ⟨rfl, ⟨nd, rfl⟩⟩; refine ⟨_, rfl, ?_⟩))
    go_meet
    case rel => exact ⟨_, (true), (by first | rfl | (simp; done) | (simp [*]; done)), H', ⟨by first | omega | exact Nat.le_refl _⟩, ⟨by (with_reducible repeat (first | refine blk_drewN ?_ _ | refine blk_drew ?_ | refine blk_alloc ?_ _)); exact BK101.out⟩, ⟨by repeat (first | (with_reducible first | exact HB.out | apply below_alloc | apply pw_below_drewN | apply below_drew1 | refine below_set ?_ GE101.out) | exact HB.out)⟩⟩
  case rest =>
   clear HC6
   try clear c1
   try clear p2
   try clear c4
   try clear c5
   try clear p6
   try clear c8
   try clear c10
   obtain ⟨kq, x13_5, rfl, HA, HJ5, BK101, HB⟩ := hcut
   cases kq with
   | zero => exact absurd HA.out (by simp [spec_SumOfWord.j0])
   | succ kj5 =>
    have H := HA.out
    clear HA
    simp only [spec_SumOfWord.j0] at H
    by_cases c12 : x13_5 = true
    ·subst c12
     have H1 : (some (0, ([] : List (S89)), 2)) = some (r1, r2, r3) := by rw [if_pos rfl] at H; exact H
     clear H
     have H := H1
     clear H1
     simp only [Option.some.injEq, Prod.mk.injEq] at H
     obtain ⟨rfl, rfl, rfl⟩ := H
     have hcz13_0 : wc.cell? ⟨gb101, 0, none⟩ = some (.int .i64 0) := (blk_cell BK101.out 0).trans rfl
     have hcz13_1 : wc.cell? ⟨gb101, 1, none⟩ = some (.slice none 0 0) := (blk_cell BK101.out 1).trans rfl
     have hfz13_0 := blk_frozen BK101.out 0
     have hfz13_1 := blk_frozen BK101.out 1
     go_wp2
     refine bodyPost_ret (results_ct rfl _ _ gb101 49 #[.int .i64 0, .slice none 0 0] (0, 0) _ rfl (by (with_reducible repeat (first | refine blk_drewN ?_ _ | refine blk_drew ?_ | refine blk_alloc ?_ _)); refine blk_put (cs := #[.int .i64 0, .slice none 0 0]) ?_ 1 _ rfl; (with_reducible repeat (first | refine blk_drewN ?_ _ | refine blk_drew ?_ | refine blk_alloc ?_ _)); refine blk_put (cs := #[.int .i64 0, .slice none 0 0]) ?_ 0 _ rfl; (with_reducible repeat (first | refine blk_drewN ?_ _ | refine blk_drew ?_ | refine blk_alloc ?_ _)); exact BK101.out) Try.underlying49 rfl (by kernel_rfl)) rfl ?_
     exact ⟨_, by first | rfl | (simp [errW_none, errW_some] <;> rfl) | (simp [*, errW_none, errW_some] <;> rfl), by first | exact Kd.S_nil _ _ _ _ _ | exact Kd.N_nil _ _ _ _ _ | exact Kd.V_nil _ _ _ _ _ | exact Kd.Q_nil _ _ _ _ _ | exact Kd.R_nil _ _ _ _ _, by repeat (first | (with_reducible first | exact HB.out | apply below_alloc | apply pw_below_drewN | apply below_drew1 | refine below_set ?_ GE101.out) | exact HB.out)⟩
    ·replace c12 := Bool.eq_false_iff.mpr c12
     subst c12
     have H1 : ((spec_l03Empty.f a0).bind fun bt105 => ((spec_l03Put.f kj5 bt105.1 bt105.2 l1 a2).bind fun bt109 => (some (bt109.1, bt109.2, 0)))) = some (r1, r2, r3) := by rw [if_neg (show ¬ (false = true) by decide)] at H; exact H
     clear H
     have H := H1
     clear H1
     replace H := Option.bind_eq_some_iff.mp H
     obtain ⟨⟨t105, t106⟩, A140, H⟩ := H
     replace H : ((spec_l03Put.f kj5 t105 t106 l1 a2).bind fun bt109 => (some (bt109.1, bt109.2, 0))) = some (r1, r2, r3) := H
     have A14 := Aside0.mk A140
     clear A140
     replace H := Option.bind_eq_some_iff.mp H
     obtain ⟨⟨t109, t110⟩, A150, H⟩ := H
     replace H : (some (t109, t110, 0)) = some (r1, r2, r3) := H
     have A15 := Aside0.mk A150
     clear A150
     simp only [Option.some.injEq, Prod.mk.injEq] at H
     obtain ⟨rfl, rfl, rfl⟩ := H
     go_wp2_with (first | ((with_reducible refine gate_callee (f := 87) rfl ?_); refine goesL_ (some 26) rfl rfl Try.func87 (by kernel_rfl) rfl #[.int .i64 a0] rfl (by (try simp only [List.map_toArray, List.map_cons, List.map_nil]); first | done | rfl | (simp only [List.length_drop, List.length_take]; rfl)) ?_; (with_reducible refine (spec_l03Empty.calls a0 t105 t106 _ A14.out).mono ?_); rintro e w16 ⟨v107, rfl, ho0, hb⟩; refine ⟨_, rfl, ?_⟩; have n0_ := Aside0.mk (Kd.S_lower ho0 (below_size (by repeat (first | (with_reducible first | exact HB.out | apply below_alloc | apply pw_below_drewN | apply below_drew1 | refine below_set ?_ GE101.out) | exact HB.out)))); have n1_ := Aside0.mk (blk_below (g := gb101) (o := .cells #[.int .i64 0, .slice none 0 0] 49 (0, 0)) (by (with_reducible repeat (first | refine blk_drewN ?_ _ | refine blk_drew ?_ | refine blk_alloc ?_ _)); exact BK101.out) hb); have n2_ := Aside0.mk (below_step (by repeat (first | (with_reducible first | exact HB.out | apply below_alloc | apply pw_below_drewN | apply below_drew1 | refine below_set ?_ GE101.out) | exact HB.out)) hb); clear BK101; clear HB; have HO108 := n0_; have BK101 := n1_; have HB := n2_; clear n0_ n1_ n2_; (try clear hb); (try clear hb2); (try clear hk); (try clear hi); (try clear ho0); obtain ⟨Ao17, co17, eo17⟩ := Kd.S_slice HO108.out; subst eo17) | ((with_reducible refine gate_callee (f := 86) rfl ?_); refine goesL_ (some 29) rfl rfl Try.func86 (by kernel_rfl) rfl #[.agg #[.int .i64 t105, .slice Ao17 t106.length co17], .slice A1 l1.length c1, .int .i64 a2] rfl (by (try simp only [List.map_toArray, List.map_cons, List.map_nil]); first | done | rfl | (simp only [List.length_drop, List.length_take]; rfl)) ?_; (with_reducible refine (spec_l03Put.calls kj5 t105 _ _ t106 _ _ l1 a2 t109 t110 _ ?side1 ?side2 ?side3 ?side4 A15.out).mono ?_); (case side1 => repeat (first | exact (Kd.S_reads' HO108.out).2.2 | (with_reducible refine Kd.C_alloc ?_ _) | (with_reducible refine Kd.C_drewN ?_ _) | (with_reducible refine Kd.C_drew ?_))); (case side2 => exact (Kd.S_reads' HO108.out).2.1); (case side3 => repeat (first | exact (Kd.C_below HR1.out HB.out) | (with_reducible refine Kd.C_alloc ?_ _) | (with_reducible refine Kd.C_drewN ?_ _) | (with_reducible refine Kd.C_drew ?_))); (case side4 => exact HC1.out); rintro e w18 ⟨v111, rfl, ho0, hb⟩; refine ⟨_, rfl, ?_⟩; have n0_ := Aside0.mk (Kd.S_elder' (by (with_reducible repeat (first | apply Kd.S_alloc | apply Kd.S_drewN | apply Kd.S_drew)); exact HO108.out) (Kd.S_base ho0) hb); have n1_ := Aside0.mk (Kd.S_lower (Kd.S_new' ho0 (Kd.S_lt (by (with_reducible repeat (first | apply Kd.S_alloc | apply Kd.S_drewN | apply Kd.S_drew)); exact HO108.out))) (below_size (by repeat (first | (with_reducible first | exact HB.out | apply below_alloc | apply pw_below_drewN | apply below_drew1 | refine below_set ?_ GE101.out) | exact HB.out)))); have n2_ := Aside0.mk (blk_below (g := gb101) (o := .cells #[.int .i64 0, .slice none 0 0] 49 (0, 0)) (by (with_reducible repeat (first | refine blk_drewN ?_ _ | refine blk_drew ?_ | refine blk_alloc ?_ _)); exact BK101.out) hb); have n3_ := Aside0.mk (below_step (by repeat (first | (with_reducible first | exact HB.out | apply below_alloc | apply pw_below_drewN | apply below_drew1 | refine below_set ?_ GE101.out) | exact HB.out)) hb); clear HO108; clear BK101; clear HB; have HO108 := n0_; have HO112 := n1_; have BK101 := n2_; have HB := n3_; clear n0_ n1_ n2_ n3_; (try clear hb); (try clear hb2); (try clear hk); (try clear hi); (try clear ho0); have hcz19_0 : w18.cell? ⟨gb101, 0, none⟩ = some (.int .i64 0) := (blk_cell BK101.out 0).trans rfl; have hcz19_1 : w18.cell? ⟨gb101, 1, none⟩ = some (.slice none 0 0) := (blk_cell BK101.out 1).trans rfl; have hfz19_0 := blk_frozen BK101.out 0; have hfz19_1 := blk_frozen BK101.out 1; obtain ⟨Ao20, co20, eo20⟩ := Kd.S_slice HO112.out; subst eo20))
     refine bodyPost_ret (results_ct rfl _ _ gb101 49 #[.int .i64 t109, .slice Ao20 t110.length co20] (0, 0) _ rfl (by (with_reducible repeat (first | refine blk_drewN ?_ _ | refine blk_drew ?_ | refine blk_alloc ?_ _)); refine blk_put (cs := #[.int .i64 t109, .slice none 0 0]) ?_ 1 _ rfl; (with_reducible repeat (first | refine blk_drewN ?_ _ | refine blk_drew ?_ | refine blk_alloc ?_ _)); refine blk_put (cs := #[.int .i64 0, .slice none 0 0]) ?_ 0 _ rfl; (with_reducible repeat (first | refine blk_drewN ?_ _ | refine blk_drew ?_ | refine blk_alloc ?_ _)); exact BK101.out) Try.underlying49 rfl (by kernel_rfl)) rfl ?_
     exact ⟨_, by first | rfl | (simp [errW_none, errW_some] <;> rfl) | (simp [*, errW_none, errW_some] <;> rfl), by (with_reducible repeat (first | apply Kd.S_alloc | apply Kd.S_drewN | apply Kd.S_drew)); exact Kd.S_mono (Kd.S_far (p := ⟨gb101, 1, none⟩) (Kd.S_far (p := ⟨gb101, 0, none⟩) (Kd.S_types HO112.out BK101.out (by decide)) (fun _ hk => hk.2) (.int .i64 t109)) (fun _ hk => hk.2) (.slice Ao20 t110.length co20)) (fun _ hk => trivial), by repeat (first | (with_reducible first | exact HB.out | apply below_alloc | apply pw_below_drewN | apply below_drew1 | refine below_set ?_ GE101.out) | exact HB.out)⟩
 ·replace c5 := Bool.eq_false_iff.mpr c5
  subst c5
  have H1 : (some (0, ([] : List (S89)), 1)) = some (r1, r2, r3) := by rw [if_neg (show ¬ (false = true) by decide)] at H; exact H
  clear H
  have H := H1
  clear H1
  simp only [Option.some.injEq, Prod.mk.injEq] at H
  obtain ⟨rfl, rfl, rfl⟩ := H
  go_enter Try.func42, Try.ntmps42
  go_wp2_with (first | ((with_reducible refine gate_dst (N := 6) rfl ?_); refine box_event ?hg (N := 6) ?hd (cs := #[.int .i64 0, .slice none 0 0]) (t := 49) ?hr ?_; (case hd => rfl); (case hg => rfl); (case hr => first | (go_simp; done) | (go_simp; rfl)); intro gb101 hg w21 hbox hb; have n0_ := Aside0.mk (below_step (by repeat (first | (with_reducible first | exact HB.out | apply below_alloc | apply pw_below_drewN | apply below_drew1) | exact HB.out)) hb); have n1_ := Aside0.mk (hbox); have n2_ := Aside0.mk ((by rw [hg]; exact (below_size (by repeat (first | (with_reducible first | exact HB.out | apply below_alloc | apply pw_below_drewN | apply below_drew1) | exact HB.out))) : w.heap.size ≤ gb101)); have n3_ := Aside0.mk ((by rw [hg]; exact (below_size (by repeat (first | (with_reducible first | exact HB.out | apply below_alloc | apply pw_below_drewN | apply below_drew1) | exact HB.out))) : w.heap.size ≤ gb101)); clear HB; have HB := n0_; have BK101 := n1_; have GW101 := n2_; have GE101 := n3_; clear n0_ n1_ n2_ n3_; clear hb hbox hg) | ((with_reducible refine gate_callee (f := 83) rfl ?_); refine goesL_ (some 10) rfl rfl Try.func83 (by kernel_rfl) rfl #[.slice A1 l1.length c1] rfl (by (try simp only [List.map_toArray, List.map_cons, List.map_nil]); first | done | rfl | (simp only [List.length_drop, List.length_take]; rfl)) ?_; (with_reducible refine (spec_l01Is.calls k _ _ l1 false _ ?side1 ?side2 A4.out).mono ?_); (case side1 => repeat (first | exact (Kd.C_below HR1.out HB.out) | (with_reducible refine Kd.C_alloc ?_ _) | (with_reducible refine Kd.C_drewN ?_ _) | (with_reducible refine Kd.C_drew ?_))); (case side2 => exact HC1.out); rintro e w22 ⟨rfl, hb⟩; refine ⟨_, rfl, ?_⟩; have n0_ := Aside0.mk (blk_below (g := gb101) (o := .cells #[.int .i64 0, .slice none 0 0] 49 (0, 0)) (by (with_reducible repeat (first | refine blk_drewN ?_ _ | refine blk_drew ?_ | refine blk_alloc ?_ _)); exact BK101.out) hb); have n1_ := Aside0.mk (below_step (by repeat (first | (with_reducible first | exact HB.out | apply below_alloc | apply pw_below_drewN | apply below_drew1 | refine below_set ?_ GE101.out) | exact HB.out)) hb); clear BK101; clear HB; have BK101 := n0_; have HB := n1_; clear n0_ n1_; (try clear hb); (try clear hb2); (try clear hk); (try clear hi); have hcz23_0 : w22.cell? ⟨gb101, 0, none⟩ = some (.int .i64 0) := (blk_cell BK101.out 0).trans rfl; have hcz23_1 : w22.cell? ⟨gb101, 1, none⟩ = some (.slice none 0 0) := (blk_cell BK101.out 1).trans rfl; have hfz23_0 := blk_frozen BK101.out 0; have hfz23_1 := blk_frozen BK101.out 1))
  refine bodyPost_ret (results_ct rfl _ _ gb101 49 #[.int .i64 0, .slice none 0 0] (0, 0) _ rfl (by (with_reducible repeat (first | refine blk_drewN ?_ _ | refine blk_drew ?_ | refine blk_alloc ?_ _)); refine blk_put (cs := #[.int .i64 0, .slice none 0 0]) ?_ 1 _ rfl; (with_reducible repeat (first | refine blk_drewN ?_ _ | refine blk_drew ?_ | refine blk_alloc ?_ _)); refine blk_put (cs := #[.int .i64 0, .slice none 0 0]) ?_ 0 _ rfl; (with_reducible repeat (first | refine blk_drewN ?_ _ | refine blk_drew ?_ | refine blk_alloc ?_ _)); exact BK101.out) Try.underlying49 rfl (by kernel_rfl)) rfl ?_
  exact ⟨_, by first | rfl | (simp [errW_none, errW_some] <;> rfl) | (simp [*, errW_none, errW_some] <;> rfl), by first | exact Kd.S_nil _ _ _ _ _ | exact Kd.N_nil _ _ _ _ _ | exact Kd.V_nil _ _ _ _ _ | exact Kd.Q_nil _ _ _ _ _ | exact Kd.R_nil _ _ _ _ _, by repeat (first | (with_reducible first | exact HB.out | apply below_alloc | apply pw_below_drewN | apply below_drew1 | refine below_set ?_ GE101.out) | exact HB.out)⟩

/-! ### impl_SumOfWord: function 43 -/
def impl_SumOfWord.f (k : Nat) (a0 : Int) (l1 : List Int) (a2 : Int) : Option (Int × (List (S89)) × Int) := (impl_IsWord.f k l1).bind fun t102 => (if t102 = true then ((impl_valueOk.f k a0 a2).bind fun t103 => (if t103 = true then ((impl_single.f a0 l1 a2).bind fun bt104 => (some (bt104.1, bt104.2, 0))) else (some (0, ([] : List (S89)), 2)))) else (some (0, ([] : List (S89)), 1)))
theorem impl_SumOfWord.mono : ∀ a0 a1 a2 k, LeO (impl_SumOfWord.f k a0 a1 a2) (impl_SumOfWord.f (k + 1) a0 a1 a2) := by
 intro a0 a1 a2 k
 unfold impl_SumOfWord.f
 repeat' first
   | (with_reducible exact impl_IsWord.mono _ _)
   | (with_reducible exact impl_valueOk.mono _ _ _)
   | (with_reducible exact LeO.refl _)
   | (with_reducible exact LeO.none _)
   | (with_reducible refine LeO.ite ?_ ?_)
   | (with_reducible refine LeO.bind ?_ (fun _ => ?_))
   | exact impl_IsWord.mono _ _
   | exact impl_valueOk.mono _ _ _
   | exact LeO.none _
   | refine LeO.ite ?_ ?_
   | refine LeO.bind ?_ (fun _ => ?_)
set_option maxHeartbeats 8000000 in
set_option maxRecDepth 100000 in
theorem impl_SumOfWord.calls (k : Nat) (a0 : Int) (A1 : Option Addr) (c1 : Nat) (l1 : List Int) (a2 : Int) (r1 : Int) (r2 : List (S89)) (r3 : Int) (w : World) (hr1 : Kd.C (Kd.int .i64) w A1 l1.length l1) (hc1 : l1.length ≤ c1) (h : impl_SumOfWord.f k a0 l1 a2 = some (r1, r2, r3)) :
  Calls Try.prog 43 #[.int .i64 a0, .slice A1 l1.length c1, .int .i64 a2] w fun e w' => ∃ v1_ : Value, e = .returned (.tuple #[.agg #[.int .i64 r1, v1_], .int .i64 r3]) ∧ Kd.S k89 89 w' w.heap.size (fun _ => True) v1_ r2 ∧ Below w.heap.size w w' := by
 have hu49 := Try.underlying49
 have HR1 := Aside0.mk hr1
 have HC1 := Aside0.mk hc1
 clear hr1 hc1
 have HB := Aside0.mk (Below.refl w.heap.size w)
 have H : ((impl_IsWord.f k l1).bind fun t102 => (if t102 = true then ((impl_valueOk.f k a0 a2).bind fun t103 => (if t103 = true then ((impl_single.f a0 l1 a2).bind fun bt104 => (some (bt104.1, bt104.2, 0))) else (some (0, ([] : List (S89)), 2)))) else (some (0, ([] : List (S89)), 1)))) = some (r1, r2, r3) := h
 clear h
 replace H := Option.bind_eq_some_iff.mp H
 obtain ⟨t102, A40, H⟩ := H
 replace H : (if t102 = true then ((impl_valueOk.f k a0 a2).bind fun t103 => (if t103 = true then ((impl_single.f a0 l1 a2).bind fun bt104 => (some (bt104.1, bt104.2, 0))) else (some (0, ([] : List (S89)), 2)))) else (some (0, ([] : List (S89)), 1))) = some (r1, r2, r3) := H
 have A4 := Aside0.mk A40
 clear A40
 by_cases c5 : t102 = true
 ·subst c5
  have H1 : ((impl_valueOk.f k a0 a2).bind fun t103 => (if t103 = true then ((impl_single.f a0 l1 a2).bind fun bt104 => (some (bt104.1, bt104.2, 0))) else (some (0, ([] : List (S89)), 2)))) = some (r1, r2, r3) := by rw [if_pos rfl] at H; exact H
  clear H
  have H := H1
  clear H1
  replace H := Option.bind_eq_some_iff.mp H
  obtain ⟨t103, A60, H⟩ := H
  replace H : (if t103 = true then ((impl_single.f a0 l1 a2).bind fun bt104 => (some (bt104.1, bt104.2, 0))) else (some (0, ([] : List (S89)), 2))) = some (r1, r2, r3) := H
  have A6 := Aside0.mk A60
  clear A60
  by_cases c7 : t103 = true
  ·subst c7
   have H1 : ((impl_single.f a0 l1 a2).bind fun bt104 => (some (bt104.1, bt104.2, 0))) = some (r1, r2, r3) := by rw [if_pos rfl] at H; exact H
   clear H
   have H := H1
   clear H1
   replace H := Option.bind_eq_some_iff.mp H
   obtain ⟨⟨t104, t105⟩, A80, H⟩ := H
   replace H : (some (t104, t105, 0)) = some (r1, r2, r3) := H
   have A8 := Aside0.mk A80
   clear A80
   simp only [Option.some.injEq, Prod.mk.injEq] at H
   obtain ⟨rfl, rfl, rfl⟩ := H
   go_enter Try.func43, Try.ntmps43
   go_wp2_with (first | ((with_reducible refine gate_dst (N := 6) rfl ?_); refine box_event ?hg (N := 6) ?hd (cs := #[.int .i64 0, .slice none 0 0]) (t := 49) ?hr ?_; (case hd => rfl); (case hg => rfl); (case hr => first | (go_simp; done) | (go_simp; rfl)); intro gb101 hg w9 hbox hb; have n0_ := Aside0.mk (below_step (by repeat (first | (with_reducible first | exact HB.out | apply below_alloc | apply pw_below_drewN | apply below_drew1) | exact HB.out)) hb); have n1_ := Aside0.mk (hbox); have n2_ := Aside0.mk ((by rw [hg]; exact (below_size (by repeat (first | (with_reducible first | exact HB.out | apply below_alloc | apply pw_below_drewN | apply below_drew1) | exact HB.out))) : w.heap.size ≤ gb101)); have n3_ := Aside0.mk ((by rw [hg]; exact (below_size (by repeat (first | (with_reducible first | exact HB.out | apply below_alloc | apply pw_below_drewN | apply below_drew1) | exact HB.out))) : w.heap.size ≤ gb101)); clear HB; have HB := n0_; have BK101 := n1_; have GW101 := n2_; have GE101 := n3_; clear n0_ n1_ n2_ n3_; clear hb hbox hg) | ((with_reducible refine gate_callee (f := 80) rfl ?_); refine goesL_ (some 10) rfl rfl Try.func80 (by kernel_rfl) rfl #[.slice A1 l1.length c1] rfl (by (try simp only [List.map_toArray, List.map_cons, List.map_nil]); first | done | rfl | (simp only [List.length_drop, List.length_take]; rfl)) ?_; (with_reducible refine (impl_IsWord.calls k _ _ l1 true _ ?side1 ?side2 A4.out).mono ?_); (case side1 => repeat (first | exact (Kd.C_below HR1.out HB.out) | (with_reducible refine Kd.C_alloc ?_ _) | (with_reducible refine Kd.C_drewN ?_ _) | (with_reducible refine Kd.C_drew ?_))); (case side2 => exact HC1.out); rintro e w10 ⟨rfl, hb⟩; refine ⟨_, rfl, ?_⟩; have n0_ := Aside0.mk (blk_below (g := gb101) (o := .cells #[.int .i64 0, .slice none 0 0] 49 (0, 0)) (by (with_reducible repeat (first | refine blk_drewN ?_ _ | refine blk_drew ?_ | refine blk_alloc ?_ _)); exact BK101.out) hb); have n1_ := Aside0.mk (below_step (by repeat (first | (with_reducible first | exact HB.out | apply below_alloc | apply pw_below_drewN | apply below_drew1 | refine below_set ?_ GE101.out) | exact HB.out)) hb); clear BK101; clear HB; have BK101 := n0_; have HB := n1_; clear n0_ n1_; (try clear hb); (try clear hb2); (try clear hk); (try clear hi)) | ((with_reducible refine gate_callee (f := 61) rfl ?_); refine goesL_ (some 16) rfl rfl Try.func61 (by kernel_rfl) rfl #[.int .i64 a0, .int .i64 a2] rfl (by (try simp only [List.map_toArray, List.map_cons, List.map_nil]); first | done | rfl | (simp only [List.length_drop, List.length_take]; rfl)) ?_; (with_reducible refine (impl_valueOk.calls k a0 a2 true _ A6.out).mono ?_); rintro e w11 ⟨rfl, hb⟩; refine ⟨_, rfl, ?_⟩; have n0_ := Aside0.mk (blk_below (g := gb101) (o := .cells #[.int .i64 0, .slice none 0 0] 49 (0, 0)) (by (with_reducible repeat (first | refine blk_drewN ?_ _ | refine blk_drew ?_ | refine blk_alloc ?_ _)); exact BK101.out) hb); have n1_ := Aside0.mk (below_step (by repeat (first | (with_reducible first | exact HB.out | apply below_alloc | apply pw_below_drewN | apply below_drew1 | refine below_set ?_ GE101.out) | exact HB.out)) hb); clear BK101; clear HB; have BK101 := n0_; have HB := n1_; clear n0_ n1_; (try clear hb); (try clear hb2); (try clear hk); (try clear hi)) | ((with_reducible refine gate_callee (f := 88) rfl ?_); refine goesL_ (some 22) rfl rfl Try.func88 (by kernel_rfl) rfl #[.int .i64 a0, .slice A1 l1.length c1, .int .i64 a2] rfl (by (try simp only [List.map_toArray, List.map_cons, List.map_nil]); first | done | rfl | (simp only [List.length_drop, List.length_take]; rfl)) ?_; (with_reducible refine (impl_single.calls a0 _ _ l1 a2 t104 t105 _ ?side1 ?side2 A8.out).mono ?_); (case side1 => repeat (first | exact (Kd.C_below HR1.out HB.out) | (with_reducible refine Kd.C_alloc ?_ _) | (with_reducible refine Kd.C_drewN ?_ _) | (with_reducible refine Kd.C_drew ?_))); (case side2 => exact HC1.out); rintro e w12 ⟨v106, rfl, ho0, hb⟩; refine ⟨_, rfl, ?_⟩; have n0_ := Aside0.mk (Kd.S_lower ho0 (below_size (by repeat (first | (with_reducible first | exact HB.out | apply below_alloc | apply pw_below_drewN | apply below_drew1 | refine below_set ?_ GE101.out) | exact HB.out)))); have n1_ := Aside0.mk (blk_below (g := gb101) (o := .cells #[.int .i64 0, .slice none 0 0] 49 (0, 0)) (by (with_reducible repeat (first | refine blk_drewN ?_ _ | refine blk_drew ?_ | refine blk_alloc ?_ _)); exact BK101.out) hb); have n2_ := Aside0.mk (below_step (by repeat (first | (with_reducible first | exact HB.out | apply below_alloc | apply pw_below_drewN | apply below_drew1 | refine below_set ?_ GE101.out) | exact HB.out)) hb); clear BK101; clear HB; have HO107 := n0_; have BK101 := n1_; have HB := n2_; clear n0_ n1_ n2_; (try clear hb); (try clear hb2); (try clear hk); (try clear hi); (try clear ho0); have hcz13_0 : w12.cell? ⟨gb101, 0, none⟩ = some (.int .i64 0) := (blk_cell BK101.out 0).trans rfl; have hcz13_1 : w12.cell? ⟨gb101, 1, none⟩ = some (.slice none 0 0) := (blk_cell BK101.out 1).trans rfl; have hfz13_0 := blk_frozen BK101.out 0; have hfz13_1 := blk_frozen BK101.out 1; obtain ⟨Ao14, co14, eo14⟩ := Kd.S_slice HO107.out; subst eo14))
   refine bodyPost_ret (results_ct rfl _ _ gb101 49 #[.int .i64 t104, .slice Ao14 t105.length co14] (0, 0) _ rfl (by (with_reducible repeat (first | refine blk_drewN ?_ _ | refine blk_drew ?_ | refine blk_alloc ?_ _)); refine blk_put (cs := #[.int .i64 t104, .slice none 0 0]) ?_ 1 _ rfl; (with_reducible repeat (first | refine blk_drewN ?_ _ | refine blk_drew ?_ | refine blk_alloc ?_ _)); refine blk_put (cs := #[.int .i64 0, .slice none 0 0]) ?_ 0 _ rfl; (with_reducible repeat (first | refine blk_drewN ?_ _ | refine blk_drew ?_ | refine blk_alloc ?_ _)); exact BK101.out) Try.underlying49 rfl (by kernel_rfl)) rfl ?_
   exact ⟨_, by first | rfl | (simp [errW_none, errW_some] <;> rfl) | (simp [*, errW_none, errW_some] <;> rfl), by (with_reducible repeat (first | apply Kd.S_alloc | apply Kd.S_drewN | apply Kd.S_drew)); exact Kd.S_mono (Kd.S_far (p := ⟨gb101, 1, none⟩) (Kd.S_far (p := ⟨gb101, 0, none⟩) (Kd.S_types HO107.out BK101.out (by decide)) (fun _ hk => hk.2) (.int .i64 t104)) (fun _ hk => hk.2) (.slice Ao14 t105.length co14)) (fun _ hk => trivial), by repeat (first | (with_reducible first | exact HB.out | apply below_alloc | apply pw_below_drewN | apply below_drew1 | refine below_set ?_ GE101.out) | exact HB.out)⟩
  ·replace c7 := Bool.eq_false_iff.mpr c7
   subst c7
   have H1 : (some (0, ([] : List (S89)), 2)) = some (r1, r2, r3) := by rw [if_neg (show ¬ (false = true) by decide)] at H; exact H
   clear H
   have H := H1
   clear H1
   simp only [Option.some.injEq, Prod.mk.injEq] at H
   obtain ⟨rfl, rfl, rfl⟩ := H
   go_enter Try.func43, Try.ntmps43
   go_wp2_with (first | ((with_reducible refine gate_dst (N := 6) rfl ?_); refine box_event ?hg (N := 6) ?hd (cs := #[.int .i64 0, .slice none 0 0]) (t := 49) ?hr ?_; (case hd => rfl); (case hg => rfl); (case hr => first | (go_simp; done) | (go_simp; rfl)); intro gb101 hg w15 hbox hb; have n0_ := Aside0.mk (below_step (by repeat (first | (with_reducible first | exact HB.out | apply below_alloc | apply pw_below_drewN | apply below_drew1) | exact HB.out)) hb); have n1_ := Aside0.mk (hbox); have n2_ := Aside0.mk ((by rw [hg]; exact (below_size (by repeat (first | (with_reducible first | exact HB.out | apply below_alloc | apply pw_below_drewN | apply below_drew1) | exact HB.out))) : w.heap.size ≤ gb101)); have n3_ := Aside0.mk ((by rw [hg]; exact (below_size (by repeat (first | (with_reducible first | exact HB.out | apply below_alloc | apply pw_below_drewN | apply below_drew1) | exact HB.out))) : w.heap.size ≤ gb101)); clear HB; have HB := n0_; have BK101 := n1_; have GW101 := n2_; have GE101 := n3_; clear n0_ n1_ n2_ n3_; clear hb hbox hg) | ((with_reducible refine gate_callee (f := 80) rfl ?_); refine goesL_ (some 10) rfl rfl Try.func80 (by kernel_rfl) rfl #[.slice A1 l1.length c1] rfl (by (try simp only [List.map_toArray, List.map_cons, List.map_nil]); first | done | rfl | (simp only [List.length_drop, List.length_take]; rfl)) ?_; (with_reducible refine (impl_IsWord.calls k _ _ l1 true _ ?side1 ?side2 A4.out).mono ?_); (case side1 => repeat (first | exact (Kd.C_below HR1.out HB.out) | (with_reducible refine Kd.C_alloc ?_ _) | (with_reducible refine Kd.C_drewN ?_ _) | (with_reducible refine Kd.C_drew ?_))); (case side2 => exact HC1.out); rintro e w16 ⟨rfl, hb⟩; refine ⟨_, rfl, ?_⟩; have n0_ := Aside0.mk (blk_below (g := gb101) (o := .cells #[.int .i64 0, .slice none 0 0] 49 (0, 0)) (by (with_reducible repeat (first | refine blk_drewN ?_ _ | refine blk_drew ?_ | refine blk_alloc ?_ _)); exact BK101.out) hb); have n1_ := Aside0.mk (below_step (by repeat (first | (with_reducible first | exact HB.out | apply below_alloc | apply pw_below_drewN | apply below_drew1 | refine below_set ?_ GE101.out) | exact HB.out)) hb); clear BK101; clear HB; have BK101 := n0_; have HB := n1_; clear n0_ n1_; (try clear hb); (try clear hb2); (try clear hk); (try clear hi)) | ((with_reducible refine gate_callee (f := 61) rfl ?_); refine goesL_ (some 16) rfl rfl Try.func61 (by kernel_rfl) rfl #[.int .i64 a0, .int .i64 a2] rfl (by (try simp only [List.map_toArray, List.map_cons, List.map_nil]); first | done | rfl | (simp only [List.length_drop, List.length_take]; rfl)) ?_; (with_reducible refine (impl_valueOk.calls k a0 a2 false _ A6.out).mono ?_); rintro e w17 ⟨rfl, hb⟩; refine ⟨_, rfl, ?_⟩; have n0_ := Aside0.mk (blk_below (g := gb101) (o := .cells #[.int .i64 0, .slice none 0 0] 49 (0, 0)) (by (with_reducible repeat (first | refine blk_drewN ?_ _ | refine blk_drew ?_ | refine blk_alloc ?_ _)); exact BK101.out) hb); have n1_ := Aside0.mk (below_step (by repeat (first | (with_reducible first | exact HB.out | apply below_alloc | apply pw_below_drewN | apply below_drew1 | refine below_set ?_ GE101.out) | exact HB.out)) hb); clear BK101; clear HB; have BK101 := n0_; have HB := n1_; clear n0_ n1_; (try clear hb); (try clear hb2); (try clear hk); (try clear hi); have hcz18_0 : w17.cell? ⟨gb101, 0, none⟩ = some (.int .i64 0) := (blk_cell BK101.out 0).trans rfl; have hcz18_1 : w17.cell? ⟨gb101, 1, none⟩ = some (.slice none 0 0) := (blk_cell BK101.out 1).trans rfl; have hfz18_0 := blk_frozen BK101.out 0; have hfz18_1 := blk_frozen BK101.out 1))
   refine bodyPost_ret (results_ct rfl _ _ gb101 49 #[.int .i64 0, .slice none 0 0] (0, 0) _ rfl (by (with_reducible repeat (first | refine blk_drewN ?_ _ | refine blk_drew ?_ | refine blk_alloc ?_ _)); refine blk_put (cs := #[.int .i64 0, .slice none 0 0]) ?_ 1 _ rfl; (with_reducible repeat (first | refine blk_drewN ?_ _ | refine blk_drew ?_ | refine blk_alloc ?_ _)); refine blk_put (cs := #[.int .i64 0, .slice none 0 0]) ?_ 0 _ rfl; (with_reducible repeat (first | refine blk_drewN ?_ _ | refine blk_drew ?_ | refine blk_alloc ?_ _)); exact BK101.out) Try.underlying49 rfl (by kernel_rfl)) rfl ?_
   exact ⟨_, by first | rfl | (simp [errW_none, errW_some] <;> rfl) | (simp [*, errW_none, errW_some] <;> rfl), by first | exact Kd.S_nil _ _ _ _ _ | exact Kd.N_nil _ _ _ _ _ | exact Kd.V_nil _ _ _ _ _ | exact Kd.Q_nil _ _ _ _ _ | exact Kd.R_nil _ _ _ _ _, by repeat (first | (with_reducible first | exact HB.out | apply below_alloc | apply pw_below_drewN | apply below_drew1 | refine below_set ?_ GE101.out) | exact HB.out)⟩
 ·replace c5 := Bool.eq_false_iff.mpr c5
  subst c5
  have H1 : (some (0, ([] : List (S89)), 1)) = some (r1, r2, r3) := by rw [if_neg (show ¬ (false = true) by decide)] at H; exact H
  clear H
  have H := H1
  clear H1
  simp only [Option.some.injEq, Prod.mk.injEq] at H
  obtain ⟨rfl, rfl, rfl⟩ := H
  go_enter Try.func43, Try.ntmps43
  go_wp2_with (first | ((with_reducible refine gate_dst (N := 6) rfl ?_); refine box_event ?hg (N := 6) ?hd (cs := #[.int .i64 0, .slice none 0 0]) (t := 49) ?hr ?_; (case hd => rfl); (case hg => rfl); (case hr => first | (go_simp; done) | (go_simp; rfl)); intro gb101 hg w19 hbox hb; have n0_ := Aside0.mk (below_step (by repeat (first | (with_reducible first | exact HB.out | apply below_alloc | apply pw_below_drewN | apply below_drew1) | exact HB.out)) hb); have n1_ := Aside0.mk (hbox); have n2_ := Aside0.mk ((by rw [hg]; exact (below_size (by repeat (first | (with_reducible first | exact HB.out | apply below_alloc | apply pw_below_drewN | apply below_drew1) | exact HB.out))) : w.heap.size ≤ gb101)); have n3_ := Aside0.mk ((by rw [hg]; exact (below_size (by repeat (first | (with_reducible first | exact HB.out | apply below_alloc | apply pw_below_drewN | apply below_drew1) | exact HB.out))) : w.heap.size ≤ gb101)); clear HB; have HB := n0_; have BK101 := n1_; have GW101 := n2_; have GE101 := n3_; clear n0_ n1_ n2_ n3_; clear hb hbox hg) | ((with_reducible refine gate_callee (f := 80) rfl ?_); refine goesL_ (some 10) rfl rfl Try.func80 (by kernel_rfl) rfl #[.slice A1 l1.length c1] rfl (by (try simp only [List.map_toArray, List.map_cons, List.map_nil]); first | done | rfl | (simp only [List.length_drop, List.length_take]; rfl)) ?_; (with_reducible refine (impl_IsWord.calls k _ _ l1 false _ ?side1 ?side2 A4.out).mono ?_); (case side1 => repeat (first | exact (Kd.C_below HR1.out HB.out) | (with_reducible refine Kd.C_alloc ?_ _) | (with_reducible refine Kd.C_drewN ?_ _) | (with_reducible refine Kd.C_drew ?_))); (case side2 => exact HC1.out); rintro e w20 ⟨rfl, hb⟩; refine ⟨_, rfl, ?_⟩; have n0_ := Aside0.mk (blk_below (g := gb101) (o := .cells #[.int .i64 0, .slice none 0 0] 49 (0, 0)) (by (with_reducible repeat (first | refine blk_drewN ?_ _ | refine blk_drew ?_ | refine blk_alloc ?_ _)); exact BK101.out) hb); have n1_ := Aside0.mk (below_step (by repeat (first | (with_reducible first | exact HB.out | apply below_alloc | apply pw_below_drewN | apply below_drew1 | refine below_set ?_ GE101.out) | exact HB.out)) hb); clear BK101; clear HB; have BK101 := n0_; have HB := n1_; clear n0_ n1_; (try clear hb); (try clear hb2); (try clear hk); (try clear hi); have hcz21_0 : w20.cell? ⟨gb101, 0, none⟩ = some (.int .i64 0) := (blk_cell BK101.out 0).trans rfl; have hcz21_1 : w20.cell? ⟨gb101, 1, none⟩ = some (.slice none 0 0) := (blk_cell BK101.out 1).trans rfl; have hfz21_0 := blk_frozen BK101.out 0; have hfz21_1 := blk_frozen BK101.out 1))
  refine bodyPost_ret (results_ct rfl _ _ gb101 49 #[.int .i64 0, .slice none 0 0] (0, 0) _ rfl (by (with_reducible repeat (first | refine blk_drewN ?_ _ | refine blk_drew ?_ | refine blk_alloc ?_ _)); refine blk_put (cs := #[.int .i64 0, .slice none 0 0]) ?_ 1 _ rfl; (with_reducible repeat (first | refine blk_drewN ?_ _ | refine blk_drew ?_ | refine blk_alloc ?_ _)); refine blk_put (cs := #[.int .i64 0, .slice none 0 0]) ?_ 0 _ rfl; (with_reducible repeat (first | refine blk_drewN ?_ _ | refine blk_drew ?_ | refine blk_alloc ?_ _)); exact BK101.out) Try.underlying49 rfl (by kernel_rfl)) rfl ?_
  exact ⟨_, by first | rfl | (simp [errW_none, errW_some] <;> rfl) | (simp [*, errW_none, errW_some] <;> rfl), by first | exact Kd.S_nil _ _ _ _ _ | exact Kd.N_nil _ _ _ _ _ | exact Kd.V_nil _ _ _ _ _ | exact Kd.Q_nil _ _ _ _ _ | exact Kd.R_nil _ _ _ _ _, by repeat (first | (with_reducible first | exact HB.out | apply below_alloc | apply pw_below_drewN | apply below_drew1 | refine below_set ?_ GE101.out) | exact HB.out)⟩

/-! ### laws_FnExactSumOfWord: function 11, by hand -/
def laws_FnExactSumOfWord.Told (i0 : Int) (l1 : List Int) (i2 : Int) (k : Nat) (c m : Int) (g0 : Int) (g1 : List S89) (p1 : List S89) (m10 : Int) (q1 : List Int) : Prop :=
 laws_toInt64S.f k l1 = some l1 ∧ laws_eqInt64S.f k l1 l1 = some true ∧ spec_SumOfWord.f k i0 l1 i2 = some (g0, g1, c) ∧ impl_SumOfWord.f k i0 l1 i2 = some (g0, g1, c) ∧ laws_eqSum.f k g0 g1 g0 g1 = some true ∧ laws_markInt64S.f k l1 1 = some (m10, q1) ∧ laws_markSum.f k g1 1 = some (m, p1) ∧ laws_heldSum.f k g0 p1 1 = some m ∧ 0 ≤ m ∧ 0 ≤ m10
set_option maxHeartbeats 16000000 in
set_option maxRecDepth 100000 in
theorem laws_FnExactSumOfWord.one (i0 : Int) (A1 : Option Addr) (c1 : Nat) (l1 : List Int) (i2 : Int) (w : World) (hr1 : Kd.C (Kd.int .i64) w A1 l1.length l1) (hc1 : l1.length ≤ c1) (hz1 : l1.length ≤ 1048576) (k : Nat) (c m : Int) (g0 : Int) (g1 : List S89) (p1 : List S89) (m10 : Int) (q1 : List Int) (h : laws_FnExactSumOfWord.Told i0 l1 i2 k c m g0 g1 p1 m10 q1) :
  Calls Try.prog 11 #[.int .i64 i0, .slice A1 l1.length c1, .int .i64 i2] w fun e w' => e = .returned (.bool true) ∧ Below w.heap.size w w' := by
 have huB := Try.underlying49
 obtain ⟨h_FT1, h_FQ1, h_FS, h_FI, h_FE, h_FK1, h_FM, h_FH, hb_0, hb_1⟩ := h
 have FT1 := Aside0.mk h_FT1
 clear h_FT1
 have FQ1 := Aside0.mk h_FQ1
 clear h_FQ1
 have FS := Aside0.mk h_FS
 clear h_FS
 have FI := Aside0.mk h_FI
 clear h_FI
 have FE := Aside0.mk h_FE
 clear h_FE
 have FK1 := Aside0.mk h_FK1
 clear h_FK1
 have FM := Aside0.mk h_FM
 clear h_FM
 have FH := Aside0.mk h_FH
 clear h_FH
 have d3 : decide (m < 0) = false := decide_eq_false (by omega)
 have d2 : decide (m10 < 0) = false := decide_eq_false (by omega)
 have da1 : decide (1048576 < l1.length) = false := decide_eq_false (by omega)
 have db1 : decide ((1048576 : Int) < (l1.length : Int)) = false := decide_eq_false (by omega)
 clear hb_0 hb_1
 have HA1 := Aside0.mk hr1
 have HC1 := Aside0.mk hc1
 clear hr1 hc1 hz1
 go_enter Try.func11, Try.ntmps11
 have BQ := Aside0.mk (Below.refl w.heap.size w)
 go_wp2_with fail
 refine (laws_toInt64S.calls k _ _ l1 l1 _ (Kd.C_below HA1.out BQ.out) HC1.out FT1.out).mono ?_
 rintro e w1 ⟨u0, rfl, o0, hb⟩
 have Ra1_0 := Aside0.mk o0
 have Ba1 := Aside0.mk hb
 clear o0 hb
 obtain ⟨Aa1_0, ca1_0, rfl⟩ := Kd.R_slice Ra1_0.out
 have n_ := Aside0.mk (below_step BQ.out Ba1.out)
 clear BQ
 have BQ := n_
 clear n_
 go_wp2_with fail
 refine (spec_SumOfWord.calls k i0 _ _ l1 i2 g0 g1 c _ (Kd.R_reads' Ra1_0.out).2.2 (Kd.R_reads' Ra1_0.out).2.1 FS.out).mono ?_
 rintro e w2 ⟨u1, rfl, o1, hb⟩
 have Rs_1 := Aside0.mk o1
 have Bs := Aside0.mk hb
 clear o1 hb
 obtain ⟨As_1, cs_1, rfl⟩ := Kd.S_slice Rs_1.out
 have n_ := Aside0.mk (below_step BQ.out Bs.out)
 clear BQ
 have BQ := n_
 clear n_
 have n_ := Aside0.mk (Kd.R_below Ra1_0.out Bs.out)
 clear Ra1_0
 have Ra1_0 := n_
 clear n_
 clear Ra1_0
 have BW0 := BQ
 clear BQ
 have K0_1 := Aside0.mk (Kd.S_reads' Rs_1.out).2.2
 have LE1 := Aside0.mk (Kd.S_reads' Rs_1.out).2.1
 clear Rs_1
 have zWa0_0 : (w2.alloc (.cells #[.int .i64 g0, .slice As_1 g1.length cs_1] 49)).cell? ⟨w2.heap.size, 0, none⟩ = some (.int .i64 g0) := (blk_cell (blk_new _ _) 0).trans rfl
 have zWa0_1 : (w2.alloc (.cells #[.int .i64 g0, .slice As_1 g1.length cs_1] 49)).cell? ⟨w2.heap.size, 1, none⟩ = some (.slice As_1 g1.length cs_1) := (blk_cell (blk_new _ _) 1).trans rfl
 go_wp2_with fail
 obtain ⟨wr, hwr_⟩ : ∃ x_ : World, w2.alloc (.cells #[.int .i64 g0, .slice As_1 g1.length cs_1] 49) = x_ := ⟨_, rfl⟩
 rw [hwr_]
 have Bwr : Aside0 (Below w2.heap.size w2 wr) := ⟨by rw [← hwr_]; exact below_alloc (Below.refl _ _) _⟩
 have BKW : Aside0 (wr.heap[w2.heap.size]? = some (.cells #[.int .i64 g0, .slice As_1 g1.length cs_1] 49 (0, 0))) := ⟨by rw [← hwr_]; exact blk_new _ _⟩
 clear hwr_
 have sWwr := blk_lt BKW.out
 have BW := Aside0.mk (below_step BW0.out Bwr.out)
 have K1 := Aside0.mk (Kd.C_below K0_1.out Bwr.out)
 clear K0_1
 have BR := Aside0.mk (Below.refl wr.heap.size wr)
 refine (laws_toInt64S.calls k _ _ l1 l1 _ (Kd.C_below HA1.out (below_then BW.out BW.out.size BR.out)) HC1.out FT1.out).mono ?_
 rintro e w3 ⟨u0, rfl, o0, hb⟩
 clear zWa0_0 zWa0_1
 have Rx1_0 := Aside0.mk o0
 have Bx1 := Aside0.mk hb
 clear o0 hb
 obtain ⟨Ax1_0, cx1_0, rfl⟩ := Kd.R_slice Rx1_0.out
 have n_ := Aside0.mk (below_step BR.out Bx1.out)
 clear BR
 have BR := n_
 clear n_
 have n_ := Aside0.mk (blk_below BKW.out Bx1.out)
 clear BKW
 have BKW := n_
 clear n_
 have zx := BR.out.size
 have XLT1 := Aside0.mk (Kd.R_lt Rx1_0.out)
 have XGE1 := Aside0.mk (Kd.R_base Rx1_0.out)
 have zW_0 : w3.cell? ⟨w2.heap.size, 0, none⟩ = some (.int .i64 g0) := (blk_cell (BKW.out) 0).trans rfl
 have zW_1 : w3.cell? ⟨w2.heap.size, 1, none⟩ = some (.slice As_1 g1.length cs_1) := (blk_cell (BKW.out) 1).trans rfl
 go_wp2_with fail
 refine (impl_SumOfWord.calls k i0 _ _ l1 i2 g0 g1 c _ (Kd.R_reads' Rx1_0.out).2.2 (Kd.R_reads' Rx1_0.out).2.1 FI.out).mono ?_
 rintro e w4 ⟨u1, rfl, o1, hb⟩
 clear zW_0 zW_1
 have Rg_1 := Aside0.mk o1
 have Bg := Aside0.mk hb
 clear o1 hb
 obtain ⟨Ag_1, cg_1, rfl⟩ := Kd.S_slice Rg_1.out
 have n_ := Aside0.mk (below_step BR.out Bg.out)
 clear BR
 have BR := n_
 clear n_
 have n_ := Aside0.mk (Kd.R_below Rx1_0.out Bg.out)
 clear Rx1_0
 have Rx1_0 := n_
 clear n_
 have n_ := Aside0.mk (blk_below BKW.out Bg.out)
 clear BKW
 have BKW := n_
 clear n_
 have n_ := Aside0.mk (Kd.S_mono (ok' := fun k_ => (w3.heap.size ≤ k_ ∧ k_ < w4.heap.size) ∧ (True)) (Kd.S_bound Rg_1.out) (fun k_ h_ => ⟨⟨h_.2.1, h_.2.2.1⟩, h_.1⟩))
 clear Rg_1
 have Rg_1 := n_
 clear n_
 have zg := Bg.out.size
 have zW_0 : w4.cell? ⟨w2.heap.size, 0, none⟩ = some (.int .i64 g0) := (blk_cell (BKW.out) 0).trans rfl
 have zW_1 : w4.cell? ⟨w2.heap.size, 1, none⟩ = some (.slice As_1 g1.length cs_1) := (blk_cell (BKW.out) 1).trans rfl
 have zWa0_0 : (w4.alloc (.cells #[.int .i64 g0, .slice Ag_1 g1.length cg_1] 49)).cell? ⟨w2.heap.size, 0, none⟩ = some (.int .i64 g0) := (blk_cell (blk_alloc BKW.out _) 0).trans rfl
 have zWa0_1 : (w4.alloc (.cells #[.int .i64 g0, .slice Ag_1 g1.length cg_1] 49)).cell? ⟨w2.heap.size, 1, none⟩ = some (.slice As_1 g1.length cs_1) := (blk_cell (blk_alloc BKW.out _) 1).trans rfl
 have zGa0_0 : (w4.alloc (.cells #[.int .i64 g0, .slice Ag_1 g1.length cg_1] 49)).cell? ⟨w4.heap.size, 0, none⟩ = some (.int .i64 g0) := (blk_cell (blk_new _ _) 0).trans rfl
 have zGa0_1 : (w4.alloc (.cells #[.int .i64 g0, .slice Ag_1 g1.length cg_1] 49)).cell? ⟨w4.heap.size, 1, none⟩ = some (.slice Ag_1 g1.length cg_1) := (blk_cell (blk_new _ _) 1).trans rfl
 go_wp2_with fail
 obtain ⟨wg, hwg_⟩ : ∃ x_ : World, w4.alloc (.cells #[.int .i64 g0, .slice Ag_1 g1.length cg_1] 49) = x_ := ⟨_, rfl⟩
 rw [hwg_]
 have Bwg : Aside0 (Below w4.heap.size w4 wg) := ⟨by rw [← hwg_]; exact below_alloc (Below.refl _ _) _⟩
 have BKG : Aside0 (wg.heap[w4.heap.size]? = some (.cells #[.int .i64 g0, .slice Ag_1 g1.length cg_1] 49 (0, 0))) := ⟨by rw [← hwg_]; exact blk_new _ _⟩
 clear hwg_
 have n_ := Aside0.mk (blk_below BKW.out Bwg.out)
 clear BKW
 have BKW := n_
 clear n_
 have sWwg := blk_lt BKW.out
 have sGwg := blk_lt BKG.out
 have n_ := Aside0.mk (below_step BR.out Bwg.out)
 clear BR
 have BR := n_
 clear n_
 have n_ := Aside0.mk (Kd.R_below Rx1_0.out Bwg.out)
 clear Rx1_0
 have Rx1_0 := n_
 clear n_
 have n_ := Aside0.mk (Kd.S_below Rg_1.out Bwg.out)
 clear Rg_1
 have Rg_1 := n_
 clear n_
 refine (laws_eqSum.calls k g0 _ _ g1 g0 _ _ g1 true _ (Kd.S_reads' Rg_1.out).2.2 (Kd.S_reads' Rg_1.out).2.1 (Kd.C_below K1.out BR.out) LE1.out FE.out).mono ?_
 rintro e w5 ⟨rfl, hb⟩
 clear zW_0 zW_1 zWa0_0 zWa0_1 zGa0_0 zGa0_1
 have Be5 := Aside0.mk (hb)
 clear hb
 have n_ := Aside0.mk (below_step BR.out Be5.out)
 clear BR
 have BR := n_
 clear n_
 have n_ := Aside0.mk (Kd.R_below Rx1_0.out Be5.out)
 clear Rx1_0
 have Rx1_0 := n_
 clear n_
 have n_ := Aside0.mk (Kd.S_below Rg_1.out Be5.out)
 clear Rg_1
 have Rg_1 := n_
 clear n_
 have n_ := Aside0.mk (blk_below BKW.out Be5.out)
 clear BKW
 have BKW := n_
 clear n_
 have n_ := Aside0.mk (blk_below BKG.out Be5.out)
 clear BKG
 have BKG := n_
 clear n_
 have zW_0 : w5.cell? ⟨w2.heap.size, 0, none⟩ = some (.int .i64 g0) := (blk_cell (BKW.out) 0).trans rfl
 have zW_1 : w5.cell? ⟨w2.heap.size, 1, none⟩ = some (.slice As_1 g1.length cs_1) := (blk_cell (BKW.out) 1).trans rfl
 have zG_0 : w5.cell? ⟨w4.heap.size, 0, none⟩ = some (.int .i64 g0) := (blk_cell (BKG.out) 0).trans rfl
 have zG_1 : w5.cell? ⟨w4.heap.size, 1, none⟩ = some (.slice Ag_1 g1.length cg_1) := (blk_cell (BKG.out) 1).trans rfl
 go_wp2_with fail
 refine (laws_toInt64S.calls k _ _ l1 l1 _ (Kd.C_below HA1.out (below_then BW.out BW.out.size BR.out)) HC1.out FT1.out).mono ?_
 rintro e w6 ⟨u0, rfl, o0, hb⟩
 clear zW_0 zW_1 zG_0 zG_1
 have Rq1_0 := Aside0.mk o0
 have Bq1 := Aside0.mk hb
 clear o0 hb
 obtain ⟨Aq1_0, cq1_0, rfl⟩ := Kd.R_slice Rq1_0.out
 have n_ := Aside0.mk (Kd.R_lower Rq1_0.out BR.out.size)
 clear Rq1_0
 have Rq1_0 := n_
 clear n_
 have n_ := Aside0.mk (below_step BR.out Bq1.out)
 clear BR
 have BR := n_
 clear n_
 have n_ := Aside0.mk (Kd.R_below Rx1_0.out Bq1.out)
 clear Rx1_0
 have Rx1_0 := n_
 clear n_
 have n_ := Aside0.mk (Kd.S_below Rg_1.out Bq1.out)
 clear Rg_1
 have Rg_1 := n_
 clear n_
 have n_ := Aside0.mk (blk_below BKW.out Bq1.out)
 clear BKW
 have BKW := n_
 clear n_
 have n_ := Aside0.mk (blk_below BKG.out Bq1.out)
 clear BKG
 have BKG := n_
 clear n_
 have zW_0 : w6.cell? ⟨w2.heap.size, 0, none⟩ = some (.int .i64 g0) := (blk_cell (BKW.out) 0).trans rfl
 have zW_1 : w6.cell? ⟨w2.heap.size, 1, none⟩ = some (.slice As_1 g1.length cs_1) := (blk_cell (BKW.out) 1).trans rfl
 have zG_0 : w6.cell? ⟨w4.heap.size, 0, none⟩ = some (.int .i64 g0) := (blk_cell (BKG.out) 0).trans rfl
 have zG_1 : w6.cell? ⟨w4.heap.size, 1, none⟩ = some (.slice Ag_1 g1.length cg_1) := (blk_cell (BKG.out) 1).trans rfl
 go_wp2_with fail
 refine (laws_eqInt64S.calls k _ _ l1 _ _ l1 true _ (Kd.R_reads' Rx1_0.out).2.2 (Kd.R_reads' Rx1_0.out).2.1 (Kd.R_reads' Rq1_0.out).2.2 (Kd.R_reads' Rq1_0.out).2.1 FQ1.out).mono ?_
 rintro e w7 ⟨rfl, hb⟩
 clear zW_0 zW_1 zG_0 zG_1
 have Be7 := Aside0.mk hb.below
 clear hb
 clear Rq1_0
 have n_ := Aside0.mk (below_step BR.out Be7.out)
 clear BR
 have BR := n_
 clear n_
 have n_ := Aside0.mk (Kd.R_below Rx1_0.out Be7.out)
 clear Rx1_0
 have Rx1_0 := n_
 clear n_
 have n_ := Aside0.mk (Kd.S_below Rg_1.out Be7.out)
 clear Rg_1
 have Rg_1 := n_
 clear n_
 have n_ := Aside0.mk (blk_below BKW.out Be7.out)
 clear BKW
 have BKW := n_
 clear n_
 have n_ := Aside0.mk (blk_below BKG.out Be7.out)
 clear BKG
 have BKG := n_
 clear n_
 have zW_0 : w7.cell? ⟨w2.heap.size, 0, none⟩ = some (.int .i64 g0) := (blk_cell (BKW.out) 0).trans rfl
 have zW_1 : w7.cell? ⟨w2.heap.size, 1, none⟩ = some (.slice As_1 g1.length cs_1) := (blk_cell (BKW.out) 1).trans rfl
 have zG_0 : w7.cell? ⟨w4.heap.size, 0, none⟩ = some (.int .i64 g0) := (blk_cell (BKG.out) 0).trans rfl
 have zG_1 : w7.cell? ⟨w4.heap.size, 1, none⟩ = some (.slice Ag_1 g1.length cg_1) := (blk_cell (BKG.out) 1).trans rfl
 go_wp2_with fail
 refine (laws_markInt64S.calls k (fun k_ => some k_ = (.slice Ax1_0 l1.length cx1_0 : Value).ownBlock) _ l1 1 m10 q1 wr _ BR.out (Kd.R_tight rfl Rx1_0.out) FK1.out).mono ?_
 rintro e w8 ⟨rfl, o0, hb, hk⟩
 clear zW_0 zW_1 zG_0 zG_1
 have BRn := Aside0.mk hb
 clear o0 hb
 clear BR
 have BR := BRn
 clear BRn
 have n_ := Aside0.mk (Kd.S_kept Rg_1.out hk (fun k_ h_ hs_ => by have := XLT1.out k_ hs_.symm; have := h_.1.1; omega))
 clear Rg_1
 have Rg_1 := n_
 clear n_
 have n_ := Aside0.mk (blk_kept BKW.out hk (fun hs_ => by have := XLT1.out _ hs_.symm; have := XGE1.out _ hs_.symm; omega))
 clear BKW
 have BKW := n_
 clear n_
 have n_ := Aside0.mk (blk_kept BKG.out hk (fun hs_ => by have := XLT1.out _ hs_.symm; have := XGE1.out _ hs_.symm; omega))
 clear BKG
 have BKG := n_
 clear n_
 clear Rx1_0
 clear hk
 have zW_0 : w8.cell? ⟨w2.heap.size, 0, none⟩ = some (.int .i64 g0) := (blk_cell (BKW.out) 0).trans rfl
 have zW_1 : w8.cell? ⟨w2.heap.size, 1, none⟩ = some (.slice As_1 g1.length cs_1) := (blk_cell (BKW.out) 1).trans rfl
 have zG_0 : w8.cell? ⟨w4.heap.size, 0, none⟩ = some (.int .i64 g0) := (blk_cell (BKG.out) 0).trans rfl
 have zG_1 : w8.cell? ⟨w4.heap.size, 1, none⟩ = some (.slice Ag_1 g1.length cg_1) := (blk_cell (BKG.out) 1).trans rfl
 go_wp2_with fail
 refine (laws_eqSum.calls k g0 _ _ g1 g0 _ _ g1 true _ (Kd.S_reads' Rg_1.out).2.2 (Kd.S_reads' Rg_1.out).2.1 (Kd.C_below K1.out BR.out) LE1.out FE.out).mono ?_
 rintro e w9 ⟨rfl, hb⟩
 clear zW_0 zW_1 zG_0 zG_1
 have Be9 := Aside0.mk (hb)
 clear hb
 have n_ := Aside0.mk (below_step BR.out Be9.out)
 clear BR
 have BR := n_
 clear n_
 have n_ := Aside0.mk (Kd.S_below Rg_1.out Be9.out)
 clear Rg_1
 have Rg_1 := n_
 clear n_
 have n_ := Aside0.mk (blk_below BKW.out Be9.out)
 clear BKW
 have BKW := n_
 clear n_
 have n_ := Aside0.mk (blk_below BKG.out Be9.out)
 clear BKG
 have BKG := n_
 clear n_
 have n_ := Aside0.mk (Kd.S_lower Rg_1.out zx)
 clear Rg_1
 have Rg_1 := n_
 clear n_
 have zW_0 : w9.cell? ⟨w2.heap.size, 0, none⟩ = some (.int .i64 g0) := (blk_cell (BKW.out) 0).trans rfl
 have zW_1 : w9.cell? ⟨w2.heap.size, 1, none⟩ = some (.slice As_1 g1.length cs_1) := (blk_cell (BKW.out) 1).trans rfl
 have zG_0 : w9.cell? ⟨w4.heap.size, 0, none⟩ = some (.int .i64 g0) := (blk_cell (BKG.out) 0).trans rfl
 have zG_1 : w9.cell? ⟨w4.heap.size, 1, none⟩ = some (.slice Ag_1 g1.length cg_1) := (blk_cell (BKG.out) 1).trans rfl
 go_wp2_with fail
 refine (laws_markSum.calls k _ g0 _ g1 1 m p1 wr _ BR.out Rg_1.out FM.out).mono ?_
 rintro e w10 ⟨rfl, o1, hb, hk⟩
 clear zW_0 zW_1 zG_0 zG_1
 have BRn := Aside0.mk hb
 clear hb BR
 have BR := BRn
 clear BRn
 have Rm_1 := Aside0.mk o1
 clear o1
 have n_ := Aside0.mk (blk_kept BKW.out hk (fun hs_ => by have := hs_.1; omega))
 clear BKW
 have BKW := n_
 clear n_
 have n_ := Aside0.mk (blk_kept BKG.out hk (fun hs_ => by have := hs_.1; omega))
 clear BKG
 have BKG := n_
 clear n_
 clear hk
 clear Rg_1
 have zW_0 : w10.cell? ⟨w2.heap.size, 0, none⟩ = some (.int .i64 g0) := (blk_cell (BKW.out) 0).trans rfl
 have zW_1 : w10.cell? ⟨w2.heap.size, 1, none⟩ = some (.slice As_1 g1.length cs_1) := (blk_cell (BKW.out) 1).trans rfl
 have zG_0 : w10.cell? ⟨w4.heap.size, 0, none⟩ = some (.int .i64 g0) := (blk_cell (BKG.out) 0).trans rfl
 have zG_1 : w10.cell? ⟨w4.heap.size, 1, none⟩ = some (.slice Ag_1 g1.length cg_1) := (blk_cell (BKG.out) 1).trans rfl
 go_wp2_with fail
 have e1_ := (Kd.S_reads' Rm_1.out).1
 have hh_ := laws_heldSum.calls k g0 _ _ p1 1 m _ (Kd.S_reads' Rm_1.out).2.2 (by rw [← e1_]; exact (Kd.S_reads' Rm_1.out).2.1) FH.out
 rw [← e1_] at hh_
 clear e1_
 refine hh_.mono ?_
 clear hh_
 rintro e w11 ⟨rfl, hb⟩
 clear zW_0 zW_1 zG_0 zG_1
 have Bh11 := Aside0.mk (hb)
 clear hb
 have n_ := Aside0.mk (below_step BR.out Bh11.out)
 clear BR
 have BR := n_
 clear n_
 have n_ := Aside0.mk (Kd.S_below Rm_1.out Bh11.out)
 clear Rm_1
 have Rm_1 := n_
 clear n_
 have n_ := Aside0.mk (blk_below BKW.out Bh11.out)
 clear BKW
 have BKW := n_
 clear n_
 have n_ := Aside0.mk (blk_below BKG.out Bh11.out)
 clear BKG
 have BKG := n_
 clear n_
 have zW_0 : w11.cell? ⟨w2.heap.size, 0, none⟩ = some (.int .i64 g0) := (blk_cell (BKW.out) 0).trans rfl
 have zW_1 : w11.cell? ⟨w2.heap.size, 1, none⟩ = some (.slice As_1 g1.length cs_1) := (blk_cell (BKW.out) 1).trans rfl
 have zG_0 : w11.cell? ⟨w4.heap.size, 0, none⟩ = some (.int .i64 g0) := (blk_cell (BKG.out) 0).trans rfl
 have zG_1 : w11.cell? ⟨w4.heap.size, 1, none⟩ = some (.slice Ag_1 g1.length cg_1) := (blk_cell (BKG.out) 1).trans rfl
 go_wp2_with fail
 refine (laws_toInt64S.calls k _ _ l1 l1 _ (Kd.C_below HA1.out (below_then BW.out BW.out.size BR.out)) HC1.out FT1.out).mono ?_
 rintro e w12 ⟨u0, rfl, o0, hb⟩
 clear zW_0 zW_1 zG_0 zG_1
 have Rh1_0 := Aside0.mk o0
 have Bh1 := Aside0.mk hb
 clear o0 hb
 obtain ⟨Ah1_0, ch1_0, rfl⟩ := Kd.R_slice Rh1_0.out
 have n_ := Aside0.mk (Kd.R_lower Rh1_0.out BR.out.size)
 clear Rh1_0
 have Rh1_0 := n_
 clear n_
 have n_ := Aside0.mk (below_step BR.out Bh1.out)
 clear BR
 have BR := n_
 clear n_
 have n_ := Aside0.mk (Kd.S_below Rm_1.out Bh1.out)
 clear Rm_1
 have Rm_1 := n_
 clear n_
 have n_ := Aside0.mk (blk_below BKW.out Bh1.out)
 clear BKW
 have BKW := n_
 clear n_
 have n_ := Aside0.mk (blk_below BKG.out Bh1.out)
 clear BKG
 have BKG := n_
 clear n_
 have zW_0 : w12.cell? ⟨w2.heap.size, 0, none⟩ = some (.int .i64 g0) := (blk_cell (BKW.out) 0).trans rfl
 have zW_1 : w12.cell? ⟨w2.heap.size, 1, none⟩ = some (.slice As_1 g1.length cs_1) := (blk_cell (BKW.out) 1).trans rfl
 have zG_0 : w12.cell? ⟨w4.heap.size, 0, none⟩ = some (.int .i64 g0) := (blk_cell (BKG.out) 0).trans rfl
 have zG_1 : w12.cell? ⟨w4.heap.size, 1, none⟩ = some (.slice Ag_1 g1.length cg_1) := (blk_cell (BKG.out) 1).trans rfl
 go_wp2_with fail
 refine (impl_SumOfWord.calls k i0 _ _ l1 i2 g0 g1 c _ (Kd.R_reads' Rh1_0.out).2.2 (Kd.R_reads' Rh1_0.out).2.1 FI.out).mono ?_
 rintro e w13 ⟨u1, rfl, o1, hb⟩
 clear zW_0 zW_1 zG_0 zG_1
 have Ry_1 := Aside0.mk o1
 have By := Aside0.mk hb
 clear o1 hb
 obtain ⟨Ay_1, cy_1, rfl⟩ := Kd.S_slice Ry_1.out
 have n_ := Aside0.mk (below_step BR.out By.out)
 clear BR
 have BR := n_
 clear n_
 have n_ := Aside0.mk (Kd.S_below Rm_1.out By.out)
 clear Rm_1
 have Rm_1 := n_
 clear n_
 have n_ := Aside0.mk (Kd.R_below Rh1_0.out By.out)
 clear Rh1_0
 have Rh1_0 := n_
 clear n_
 have n_ := Aside0.mk (blk_below BKW.out By.out)
 clear BKW
 have BKW := n_
 clear n_
 have n_ := Aside0.mk (blk_below BKG.out By.out)
 clear BKG
 have BKG := n_
 clear n_
 clear Rh1_0
 have zW_0 : w13.cell? ⟨w2.heap.size, 0, none⟩ = some (.int .i64 g0) := (blk_cell (BKW.out) 0).trans rfl
 have zW_1 : w13.cell? ⟨w2.heap.size, 1, none⟩ = some (.slice As_1 g1.length cs_1) := (blk_cell (BKW.out) 1).trans rfl
 have zG_0 : w13.cell? ⟨w4.heap.size, 0, none⟩ = some (.int .i64 g0) := (blk_cell (BKG.out) 0).trans rfl
 have zG_1 : w13.cell? ⟨w4.heap.size, 1, none⟩ = some (.slice Ag_1 g1.length cg_1) := (blk_cell (BKG.out) 1).trans rfl
 have zWa0_0 : (w13.alloc (.cells #[.int .i64 g0, .slice Ay_1 g1.length cy_1] 49)).cell? ⟨w2.heap.size, 0, none⟩ = some (.int .i64 g0) := (blk_cell (blk_alloc BKW.out _) 0).trans rfl
 have zWa0_1 : (w13.alloc (.cells #[.int .i64 g0, .slice Ay_1 g1.length cy_1] 49)).cell? ⟨w2.heap.size, 1, none⟩ = some (.slice As_1 g1.length cs_1) := (blk_cell (blk_alloc BKW.out _) 1).trans rfl
 have zGa0_0 : (w13.alloc (.cells #[.int .i64 g0, .slice Ay_1 g1.length cy_1] 49)).cell? ⟨w4.heap.size, 0, none⟩ = some (.int .i64 g0) := (blk_cell (blk_alloc BKG.out _) 0).trans rfl
 have zGa0_1 : (w13.alloc (.cells #[.int .i64 g0, .slice Ay_1 g1.length cy_1] 49)).cell? ⟨w4.heap.size, 1, none⟩ = some (.slice Ag_1 g1.length cg_1) := (blk_cell (blk_alloc BKG.out _) 1).trans rfl
 have zYa0_0 : (w13.alloc (.cells #[.int .i64 g0, .slice Ay_1 g1.length cy_1] 49)).cell? ⟨w13.heap.size, 0, none⟩ = some (.int .i64 g0) := (blk_cell (blk_new _ _) 0).trans rfl
 have zYa0_1 : (w13.alloc (.cells #[.int .i64 g0, .slice Ay_1 g1.length cy_1] 49)).cell? ⟨w13.heap.size, 1, none⟩ = some (.slice Ay_1 g1.length cy_1) := (blk_cell (blk_new _ _) 1).trans rfl
 go_wp2_with fail
 obtain ⟨wy, hwy_⟩ : ∃ x_ : World, w13.alloc (.cells #[.int .i64 g0, .slice Ay_1 g1.length cy_1] 49) = x_ := ⟨_, rfl⟩
 rw [hwy_]
 have Bwy : Aside0 (Below w13.heap.size w13 wy) := ⟨by rw [← hwy_]; exact below_alloc (Below.refl _ _) _⟩
 have BKY : Aside0 (wy.heap[w13.heap.size]? = some (.cells #[.int .i64 g0, .slice Ay_1 g1.length cy_1] 49 (0, 0))) := ⟨by rw [← hwy_]; exact blk_new _ _⟩
 clear hwy_
 have n_ := Aside0.mk (blk_below BKW.out Bwy.out)
 clear BKW
 have BKW := n_
 clear n_
 have n_ := Aside0.mk (blk_below BKG.out Bwy.out)
 clear BKG
 have BKG := n_
 clear n_
 have sWwy := blk_lt BKW.out
 have sGwy := blk_lt BKG.out
 have sYwy := blk_lt BKY.out
 have n_ := Aside0.mk (below_step BR.out Bwy.out)
 clear BR
 have BR := n_
 clear n_
 have n_ := Aside0.mk (Kd.S_below Rm_1.out Bwy.out)
 clear Rm_1
 have Rm_1 := n_
 clear n_
 have n_ := Aside0.mk (Kd.S_below Ry_1.out Bwy.out)
 clear Ry_1
 have Ry_1 := n_
 clear n_
 refine (laws_eqSum.calls k g0 _ _ g1 g0 _ _ g1 true _ (Kd.S_reads' Ry_1.out).2.2 (Kd.S_reads' Ry_1.out).2.1 (Kd.C_below K1.out BR.out) LE1.out FE.out).mono ?_
 rintro e w14 ⟨rfl, hb⟩
 clear zW_0 zW_1 zG_0 zG_1 zWa0_0 zWa0_1 zGa0_0 zGa0_1 zYa0_0 zYa0_1
 have Be14 := Aside0.mk (hb)
 clear hb
 have n_ := Aside0.mk (below_step BR.out Be14.out)
 clear BR
 have BR := n_
 clear n_
 have n_ := Aside0.mk (Kd.S_below Rm_1.out Be14.out)
 clear Rm_1
 have Rm_1 := n_
 clear n_
 have n_ := Aside0.mk (Kd.S_below Ry_1.out Be14.out)
 clear Ry_1
 have Ry_1 := n_
 clear n_
 have n_ := Aside0.mk (blk_below BKW.out Be14.out)
 clear BKW
 have BKW := n_
 clear n_
 have n_ := Aside0.mk (blk_below BKG.out Be14.out)
 clear BKG
 have BKG := n_
 clear n_
 have n_ := Aside0.mk (blk_below BKY.out Be14.out)
 clear BKY
 have BKY := n_
 clear n_
 clear Ry_1
 have zW_0 : w14.cell? ⟨w2.heap.size, 0, none⟩ = some (.int .i64 g0) := (blk_cell (BKW.out) 0).trans rfl
 have zW_1 : w14.cell? ⟨w2.heap.size, 1, none⟩ = some (.slice As_1 g1.length cs_1) := (blk_cell (BKW.out) 1).trans rfl
 have zG_0 : w14.cell? ⟨w4.heap.size, 0, none⟩ = some (.int .i64 g0) := (blk_cell (BKG.out) 0).trans rfl
 have zG_1 : w14.cell? ⟨w4.heap.size, 1, none⟩ = some (.slice Ag_1 g1.length cg_1) := (blk_cell (BKG.out) 1).trans rfl
 have zY_0 : w14.cell? ⟨w13.heap.size, 0, none⟩ = some (.int .i64 g0) := (blk_cell (BKY.out) 0).trans rfl
 have zY_1 : w14.cell? ⟨w13.heap.size, 1, none⟩ = some (.slice Ay_1 g1.length cy_1) := (blk_cell (BKY.out) 1).trans rfl
 go_wp2_with fail
 have e1_ := (Kd.S_reads' Rm_1.out).1
 have hh_ := laws_heldSum.calls k g0 _ _ p1 1 m _ (Kd.S_reads' Rm_1.out).2.2 (by rw [← e1_]; exact (Kd.S_reads' Rm_1.out).2.1) FH.out
 rw [← e1_] at hh_
 clear e1_
 refine hh_.mono ?_
 clear hh_
 rintro e w15 ⟨rfl, hb⟩
 clear zW_0 zW_1 zG_0 zG_1 zY_0 zY_1
 have Bh15 := Aside0.mk (hb)
 clear hb
 have n_ := Aside0.mk (below_step BR.out Bh15.out)
 clear BR
 have BR := n_
 clear n_
 have n_ := Aside0.mk (Kd.S_below Rm_1.out Bh15.out)
 clear Rm_1
 have Rm_1 := n_
 clear n_
 have n_ := Aside0.mk (blk_below BKW.out Bh15.out)
 clear BKW
 have BKW := n_
 clear n_
 have n_ := Aside0.mk (blk_below BKG.out Bh15.out)
 clear BKG
 have BKG := n_
 clear n_
 have n_ := Aside0.mk (blk_below BKY.out Bh15.out)
 clear BKY
 have BKY := n_
 clear n_
 go_wp2
 go_ret
 exact ⟨rfl, (below_then BW.out BW.out.size BR.out)⟩
def laws_FnExactSumOfWord.Pure : Prop := ∀ (i0 : Int) (l1 : List Int) (i2 : Int), (Lit.int .i64 i0).wf = true → (Lit.int .i64 i2).wf = true → l1.length ≤ maxLen → (∀ x ∈ l1, (Lit.int .i64 x).wf = true) → l1.length ≤ 1048576 → ∃ k c m g0 g1 p1 m10 q1, laws_FnExactSumOfWord.Told i0 l1 i2 k c m g0 g1 p1 m10 q1
set_option maxHeartbeats 4000000 in
theorem laws_FnExactSumOfWord.early (i0 : Int) (A1 : Option Addr) (c1 : Nat) (l1 : List Int) (i2 : Int) (w : World) (hs0 : 1048576 < l1.length) (hm : l1.length ≤ maxLen) :
  Calls Try.prog 11 #[.int .i64 i0, .slice A1 l1.length c1, .int .i64 i2] w fun e w' => e = .returned (.bool true) ∧ Below w.heap.size w w' := by
 have d1 : decide (1048576 < l1.length) = true := decide_eq_true hs0
 have d2 : decide ((1048576 : Int) < (l1.length : Int)) = true := decide_eq_true (by omega)
 go_enter Try.func11, Try.ntmps11
 go_wp2
 go_ret
 exact ⟨rfl, Below.refl _ _⟩
theorem laws_FnExactSumOfWord.walk (P : laws_FnExactSumOfWord.Pure) (i0 : Int) (a1 : Option Addr) (len1 cap1 : Nat) (z1 : List Int) (i2 : Int) (w : World) (w0 : (a1 = none ∧ len1 = 0 ∧ cap1 = 0 ∧ z1 = []) ∨ ∃ x, a1 = some x ∧ len1 ≤ cap1 ∧ cap1 ≤ maxLen ∧ z1.length = cap1 ∧ (∀ i, i < z1.length → w.cell? (x.add i) = some (.int .i64 (z1.getD i 0))) ∧ ∀ n ∈ z1, (Lit.int .i64 n).wf = true) (wi0 : (Lit.int .i64 i0).wf = true) (wi2 : (Lit.int .i64 i2).wf = true) :
  Calls Try.prog 11 #[.int .i64 i0, .slice a1 len1 cap1, .int .i64 i2] w fun e w' => e = .returned (.bool true) ∧ Below w.heap.size w w' := by
 obtain ⟨l0, rfl, hr0, hm0, hw0, hc0⟩ := ReadsInt.ofRowC w0
 by_cases hs : l0.length ≤ 1048576
 ·obtain ⟨k, c, m, g0, g1, p1, m10, q1, h⟩ := P i0 l0 i2 wi0 wi2 hm0 hw0 hs
  exact laws_FnExactSumOfWord.one i0 _ _ l0 i2 w (Kd.C_of_reads (d := (0 : Int)) (h1 := fun _ => rfl) hr0) hc0 hs k c m g0 g1 p1 m10 q1 h
 ·exact laws_FnExactSumOfWord.early i0 _ _ l0 i2 w (by omega) hm0

end Go.Proofs.Ytpfhbdpmafcnfaa.G
