-- Written by the session's program mk.py (which runs the kit's print.py over functions and over contracts given by hand).
import Derived.Test.YtckmncebedhgeaaG0
import Derived.Test.YtckmncebedhgeaaG25
import Derived.Test.YtckmncebedhgeaaGgI
import Derived.Test.YtckmncebedhgeaaGgL
import Derived.Test.YtckmncebedhgeaaGgS
namespace Go.Proofs.Ytckmncebedhgeaa.G
open Go.RowKit Go.Maps Go.Proofs.YtckmncebedhgeaaW.PrintWords Go.Proofs.YtckmncebedhgeaaW.PrintLast Go.Proofs.YtckmncebedhgeaaW.PrintMore
attribute [local go_sem] max2_int min2_int max_two min_two max_three min_three max_four min_four   -- for this text's walks alone
set_option linter.unusedVariables false
set_option linter.unusedSimpArgs false

/-! ### spec_BlocksOf: function 27 -/
def spec_BlocksOf.l0 : Nat → List Int → List (List Int) → Int → Int → List Bool → Int → Option ((List (List Int)) × Int)
  | 0, _, _, _, _, _, _ => none
  | k + 1, x0, x5, x6, x7, x8, x9 => if x9 < (x0.length : Int) then (if 0 ≤ x9 then (if 0 ≤ (rd x0 x9) then (if (rd x0 x9) < (x8.length : Int) then (if rdOf false x8 (rd x0 x9) = true then (if (wrap64 (x6 - 1)) = 0 then (if 0 ≤ x7 then (if x7 ≤ (wrap64 (x9 + 1)) then (if (wrap64 (x9 + 1)) ≤ (x0.length : Int) then ((spec_l01Normal.f k ((x0.take ((wrap64 (x9 + 1)) : Int).toNat).drop (x7 : Int).toNat)).bind fun t111 => (if x5.length < 5864062014805 then (spec_BlocksOf.l0 k x0 (x5 ++ [t111]) (wrap64 (x6 - 1)) (wrap64 (x9 + 1)) x8 (wrap64 (x9 + 1))) else (none))) else (none)) else (none)) else (none)) else (spec_BlocksOf.l0 k x0 x5 (wrap64 (x6 - 1)) x7 x8 (wrap64 (x9 + 1)))) else ((some (x8.set ((rd x0 x9) : Int).toNat true : List Bool)).bind fun y118 => (if (wrap64 (x6 + 1)) = 0 then (if 0 ≤ x7 then (if x7 ≤ (wrap64 (x9 + 1)) then (if (wrap64 (x9 + 1)) ≤ (x0.length : Int) then ((spec_l01Normal.f k ((x0.take ((wrap64 (x9 + 1)) : Int).toNat).drop (x7 : Int).toNat)).bind fun t120 => (if x5.length < 5864062014805 then (spec_BlocksOf.l0 k x0 (x5 ++ [t120]) (wrap64 (x6 + 1)) (wrap64 (x9 + 1)) y118 (wrap64 (x9 + 1))) else (none))) else (none)) else (none)) else (none)) else (spec_BlocksOf.l0 k x0 x5 (wrap64 (x6 + 1)) x7 y118 (wrap64 (x9 + 1)))))) else (none)) else (none)) else (none)) else (some (x5, 0))
def spec_BlocksOf.f (k : Nat) (l0 : List Int) : Option ((List (List Int)) × Int) := (spec_l02Code.f k l0).bind fun t101 => (if t101 = 0 then (if 0 ≤ (l0.length : Int) then (if ((l0.length : Int) : Int).toNat ≤ 281474976710656 then (spec_BlocksOf.l0 k l0 (([] : List (List Int))) 0 0 (List.replicate ((l0.length : Int) : Int).toNat false) 0) else (none)) else (none)) else (some (([] : List (List Int)), t101)))
theorem spec_BlocksOf.mono_l : ∀ k, (∀ y0 y1 y2 y3 y4 y5, LeO (spec_BlocksOf.l0 k y0 y1 y2 y3 y4 y5) (spec_BlocksOf.l0 (k + 1) y0 y1 y2 y3 y4 y5))
  | 0 => fun _ _ _ _ _ _ r h => by simp [spec_BlocksOf.l0] at h
  | k + 1 => by
    have ih0 := spec_BlocksOf.mono_l k
    · intro y0 y1 y2 y3 y4 y5
      unfold spec_BlocksOf.l0
      repeat' first
      | (with_reducible exact ih0 _ _ _ _ _ _)
      | (with_reducible exact spec_l01Normal.mono _ _)
      | (with_reducible exact spec_l02Code.mono _ _)
      | (with_reducible exact LeO.refl _)
      | (with_reducible exact LeO.none _)
      | (with_reducible refine LeO.ite ?_ ?_)
      | (with_reducible refine LeO.bind ?_ (fun _ => ?_))
      | exact ih0 _ _ _ _ _ _
      | exact spec_l01Normal.mono _ _
      | exact spec_l02Code.mono _ _
      | exact LeO.none _
      | refine LeO.ite ?_ ?_
      | refine LeO.bind ?_ (fun _ => ?_)
theorem spec_BlocksOf.mono : ∀ a0 k, LeO (spec_BlocksOf.f k a0) (spec_BlocksOf.f (k + 1) a0) := by
  intro a0 k
  have ih0 := spec_BlocksOf.mono_l k
  unfold spec_BlocksOf.f
  repeat' first
      | (with_reducible exact ih0 _ _ _ _ _ _)
      | (with_reducible exact spec_l01Normal.mono _ _)
      | (with_reducible exact spec_l02Code.mono _ _)
      | (with_reducible exact LeO.refl _)
      | (with_reducible exact LeO.none _)
      | (with_reducible refine LeO.ite ?_ ?_)
      | (with_reducible refine LeO.bind ?_ (fun _ => ?_))
      | exact ih0 _ _ _ _ _ _
      | exact spec_l01Normal.mono _ _
      | exact spec_l02Code.mono _ _
      | exact LeO.none _
      | refine LeO.ite ?_ ?_
      | refine LeO.bind ?_ (fun _ => ?_)
set_option maxHeartbeats 8000000 in
set_option maxRecDepth 100000 in
theorem spec_BlocksOf.calls (k : Nat) (A0 : Option Addr) (c0 : Nat) (l0 : List Int) (r1 : List (List Int)) (r2 : Int) (w : World) (hr0 : Kd.C (Kd.int .i64) w A0 l0.length l0) (hc0 : l0.length ≤ c0) (h : spec_BlocksOf.f k l0 = some (r1, r2)) :
    Calls Try.prog 27 #[.slice A0 l0.length c0] w fun e w' => ∃ v0_ : Value, e = .returned (.tuple #[v0_, .int .i64 r2]) ∧ Kd.S (Kd.slice 2 (Kd.int .i64)) 28 w' w.heap.size (fun _ => True) v0_ r1 ∧ Below w.heap.size w w' := by
  have HR0 := Aside0.mk hr0
  have HC0 := Aside0.mk hc0
  clear hr0 hc0
  have HB := Aside0.mk (Below.refl w.heap.size w)
  have H : ((spec_l02Code.f k l0).bind fun t101 => (if t101 = 0 then (if 0 ≤ (l0.length : Int) then (if ((l0.length : Int) : Int).toNat ≤ 281474976710656 then (spec_BlocksOf.l0 k l0 (([] : List (List Int))) 0 0 (List.replicate ((l0.length : Int) : Int).toNat false) 0) else (none)) else (none)) else (some (([] : List (List Int)), t101)))) = some (r1, r2) := h
  clear h
  replace H := Option.bind_eq_some_iff.mp H
  obtain ⟨t101, A20, H⟩ := H
  replace H : (if t101 = 0 then (if 0 ≤ (l0.length : Int) then (if ((l0.length : Int) : Int).toNat ≤ 281474976710656 then (spec_BlocksOf.l0 k l0 (([] : List (List Int))) 0 0 (List.replicate ((l0.length : Int) : Int).toNat false) 0) else (none)) else (none)) else (some (([] : List (List Int)), t101))) = some (r1, r2) := H
  have A2 := Aside0.mk A20
  clear A20
  by_cases c3 : t101 = 0
  · rw [if_pos c3] at H
    have c3b0 : (t101 == 0) = true := beq_iff_eq.mpr c3
    have c3b1 : (t101 != 0) = false := bne_eq_false_iff_eq.mpr c3
    clear c3
    obtain ⟨y102, hy102⟩ : ∃ y_ : List (List Int), y_ = (([] : List (List Int))) := ⟨_, rfl⟩
    replace H : (if 0 ≤ (l0.length : Int) then (if ((l0.length : Int) : Int).toNat ≤ 281474976710656 then (spec_BlocksOf.l0 k l0 y102 0 0 (List.replicate ((l0.length : Int) : Int).toNat false) 0) else (none)) else (none)) = some (r1, r2) := by first | (rw [hy102]; with_reducible exact H) | (have H2_ := (Option.bind_some _ _).symm.trans H; rw [hy102]; with_reducible exact H2_) | (have H2_ := (Option.bind_some _ _).symm.trans H; with_reducible exact H2_) | with_reducible exact H | (rw [hy102]; exact H) | exact H
    have Ny102 := Aside0.mk hy102
    clear hy102
    by_cases c4 : 0 ≤ (l0.length : Int)
    · rw [if_pos c4] at H
      have c4b0 := eq_true c4
      have c4b1 : decide (0 ≤ (l0.length : Int)) = true := decide_eq_true c4
      clear c4
      by_cases c5 : ((l0.length : Int) : Int).toNat ≤ 281474976710656
      · rw [if_pos c5] at H
        have c5b0 := eq_true c5
        have c5b1 : decide (((l0.length : Int) : Int).toNat ≤ 281474976710656) = true := decide_eq_true c5
        clear c5
        obtain ⟨y105, hy105⟩ : ∃ y_ : List Bool, y_ = (List.replicate ((l0.length : Int) : Int).toNat false) := ⟨_, rfl⟩
        replace H : (spec_BlocksOf.l0 k l0 y102 0 0 y105 0) = some (r1, r2) := by first | (rw [hy105]; with_reducible exact H) | (have H2_ := (Option.bind_some _ _).symm.trans H; rw [hy105]; with_reducible exact H2_) | (have H2_ := (Option.bind_some _ _).symm.trans H; with_reducible exact H2_) | with_reducible exact H | (rw [hy105]; exact H) | exact H
        have Ny105 := Aside0.mk hy105
        clear hy105
        have H' := Aside0.mk H
        clear H
        go_enter Try.func27, Try.ntmps27
        go_wp2_with (first | ((with_reducible refine gate_callee (f := 79) rfl ?_); refine goesL_ (some 11) rfl rfl Try.func79 (by kernel_rfl) rfl #[.slice A0 l0.length c0] rfl (by (try simp only [List.map_toArray, List.map_cons, List.map_nil]); first | done | rfl | (simp only [List.length_drop, List.length_take]; rfl)) ?_; (with_reducible refine (spec_l02Code.calls k _ _ l0 t101 _ ?side1 ?side2 A2.out).mono ?_); (case side1 => repeat (first | exact HR0.out | (with_reducible refine Kd.C_alloc ?_ _) | (with_reducible refine Kd.C_drewN ?_ _) | (with_reducible refine Kd.C_drew ?_))); (case side2 => exact HC0.out); rintro e w6 ⟨rfl, hb⟩; refine ⟨_, rfl, ?_⟩; have n0_ := Aside0.mk (below_step (by repeat (first | (with_reducible first | exact HB.out | apply below_alloc | apply pw_below_drewN | apply below_drew1) | exact HB.out)) hb); clear HB; have HB := n0_; clear n0_; (try clear hb); (try clear hb2); (try clear hk); (try clear hi)) | ((with_reducible refine gate_dst (N := 15) rfl ?_); refine Kd.S_lit (Kd.slice 2 (Kd.int .i64)) _ 28 ?hg (N := 15) ?hd (xs := ([] : List (List Int))) (inner := []) (ok := fun _ => True) (okp := fun _ => True) ?hr ?hp (fun _ hk => hk) trivial (Below.refl _ _) (Nat.le_refl _) (by simp) ?_; (case hd => rfl); (case hg => rfl); (case hr => first | (go_simp; done) | (go_simp; rfl)); (case hp => exact (Reps.none _ _)); intro v103 w7 ho8 hb hg_ hnew_; clear hg_ hnew_; (first | rw [← Ny102.out] at ho8 | (simp only [Int.reduceToNat] at ho8; rw [← Ny102.out] at ho8)); have n0_ := Aside0.mk (Kd.S_lower ho8 (below_size (by repeat (first | (with_reducible first | exact HB.out | apply below_alloc | apply pw_below_drewN | apply below_drew1) | exact HB.out)))); have n1_ := Aside0.mk (below_step (by repeat (first | (with_reducible first | exact HB.out | apply below_alloc | apply pw_below_drewN | apply below_drew1) | exact HB.out)) hb); clear HB; have HO104 := n0_; have HB := n1_; clear n0_ n1_; clear hb ho8) | ((with_reducible refine gate_dst (N := 18) rfl ?_); refine Kd.R_make Kd.bool _ 4 rfl (N := 18) rfl 67 _ _ rfl (l0.length : Int) rfl rfl Try.underlying67 (.bool false) 1 info4 rfl (by decide) (by omega) false (ok := fun _ => True) (okp := fun _ => True) rfl (fun _ hk => hk) trivial (of_decide_eq_true (by first | (with_reducible assumption) | assumption)) (Nat.le_trans (Nat.mul_le_mul_right _ (of_decide_eq_true (by first | (with_reducible assumption) | assumption) : (l0.length : Int).toNat ≤ 281474976710656)) (by omega)) (Below.refl _ _) (Nat.le_refl _) ?_; intro v106 w9 ho10 hb hg_ hnew_; clear hg_ hnew_; (first | rw [← Ny105.out] at ho10 | (simp only [Int.reduceToNat] at ho10; rw [← Ny105.out] at ho10)); have n0_ := Aside0.mk (Kd.S_below (by (with_reducible repeat (first | apply Kd.S_alloc | apply Kd.S_drewN | apply Kd.S_drew)); exact HO104.out) hb); have n1_ := Aside0.mk (Kd.R_lower ho10 (below_size (by repeat (first | (with_reducible first | exact HB.out | apply below_alloc | apply pw_below_drewN | apply below_drew1) | exact HB.out)))); have n2_ := Aside0.mk (below_step (by repeat (first | (with_reducible first | exact HB.out | apply below_alloc | apply pw_below_drewN | apply below_drew1) | exact HB.out)) hb); clear HO104; clear HB; have HO104 := n0_; have HO107 := n1_; have HB := n2_; clear n0_ n1_ n2_; clear hb ho10))
        go_loopg [5, 6, 7, 9] k (fun kq v5 v6 v7 v9 w' => ∃ (x5_1 : List (List Int)) (x6_1 : Int) (x7_1 : Int) (x8_1 : List Bool) (x9_1 : Int), v6 = .int .i64 x6_1 ∧ v7 = .int .i64 x7_1 ∧ v9 = .int .i64 x9_1 ∧ Aside0 (spec_BlocksOf.l0 kq l0 x5_1 x6_1 x7_1 x8_1 x9_1 = some (r1, r2)) ∧ Aside0 (kq ≤ k) ∧ Aside0 (Kd.S (Kd.slice 2 (Kd.int .i64)) 28 w' w.heap.size (fun _ => True) v5 x5_1) ∧ Aside0 (Kd.R Kd.bool 4 w' w.heap.size (fun _ => True) v106 x8_1) ∧ Aside0 (Below w.heap.size w w'))
        case atStart => exact ⟨(y102), (0), (0), (y105), (0), (by first | rfl | (simp; done) | (simp [*]; done)), (by first | rfl | (simp; done) | (simp [*]; done)), (by first | rfl | (simp; done) | (simp [*]; done)), H', ⟨Nat.le_refl _⟩, ⟨by (with_reducible repeat (first | apply Kd.S_alloc | apply Kd.S_drewN | apply Kd.S_drew)); exact HO104.out⟩, ⟨by (with_reducible repeat (first | apply Kd.R_alloc | apply Kd.R_drewN | apply Kd.R_drew)); exact HO107.out⟩, ⟨by repeat (first | (with_reducible first | exact HB.out | apply below_alloc | apply pw_below_drewN | apply below_drew1) | exact HB.out)⟩⟩
        case round =>
          clear H'
          try clear c2
          try clear p2
          try clear c3
          try clear c3b0
          try clear c3b1
          try clear c4
          try clear c4b0
          try clear c4b1
          try clear c5
          try clear c5b0
          try clear c5b1
          try clear c7
          obtain ⟨x5_1, x6_1, x7_1, x8_1, x9_1, rfl, rfl, rfl, HA, HK1, HO_5, HO_8, HB⟩ := hrel
          cases gk with
          | zero => exact absurd HA.out (by simp [spec_BlocksOf.l0])
          | succ k1 =>
            have H := HA.out
            clear HA
            simp only [spec_BlocksOf.l0] at H
            by_cases c11 : x9_1 < (l0.length : Int)
            · rw [if_pos c11] at H
              have c11b0 : decide (x9_1 < (l0.length : Int)) = true := decide_eq_true c11
              clear c11
              by_cases c12 : 0 ≤ x9_1
              · rw [if_pos c12] at H
                have c12b0 : decide (0 ≤ x9_1) = true := decide_eq_true c12
                clear c12
                by_cases c13 : 0 ≤ (rd l0 x9_1)
                · rw [if_pos c13] at H
                  have c13b0 : decide (0 ≤ (rd l0 x9_1)) = true := decide_eq_true c13
                  clear c13
                  by_cases c14 : (rd l0 x9_1) < (x8_1.length : Int)
                  · rw [if_pos c14] at H
                    have c14b0 : decide ((rd l0 x9_1) < (x8_1.length : Int)) = true := decide_eq_true c14
                    clear c14
                    obtain ⟨bq15, hbq15⟩ : ∃ b_ : Bool, b_ = (rdOf false x8_1 (rd l0 x9_1)) := ⟨_, rfl⟩
                    replace H : (if bq15 = true then (if (wrap64 (x6_1 - 1)) = 0 then (if 0 ≤ x7_1 then (if x7_1 ≤ (wrap64 (x9_1 + 1)) then (if (wrap64 (x9_1 + 1)) ≤ (l0.length : Int) then ((spec_l01Normal.f k1 ((l0.take ((wrap64 (x9_1 + 1)) : Int).toNat).drop (x7_1 : Int).toNat)).bind fun t111 => (if x5_1.length < 5864062014805 then (spec_BlocksOf.l0 k1 l0 (x5_1 ++ [t111]) (wrap64 (x6_1 - 1)) (wrap64 (x9_1 + 1)) x8_1 (wrap64 (x9_1 + 1))) else (none))) else (none)) else (none)) else (none)) else (spec_BlocksOf.l0 k1 l0 x5_1 (wrap64 (x6_1 - 1)) x7_1 x8_1 (wrap64 (x9_1 + 1)))) else ((some (x8_1.set ((rd l0 x9_1) : Int).toNat true : List Bool)).bind fun y118 => (if (wrap64 (x6_1 + 1)) = 0 then (if 0 ≤ x7_1 then (if x7_1 ≤ (wrap64 (x9_1 + 1)) then (if (wrap64 (x9_1 + 1)) ≤ (l0.length : Int) then ((spec_l01Normal.f k1 ((l0.take ((wrap64 (x9_1 + 1)) : Int).toNat).drop (x7_1 : Int).toNat)).bind fun t120 => (if x5_1.length < 5864062014805 then (spec_BlocksOf.l0 k1 l0 (x5_1 ++ [t120]) (wrap64 (x6_1 + 1)) (wrap64 (x9_1 + 1)) y118 (wrap64 (x9_1 + 1))) else (none))) else (none)) else (none)) else (none)) else (spec_BlocksOf.l0 k1 l0 x5_1 (wrap64 (x6_1 + 1)) x7_1 y118 (wrap64 (x9_1 + 1)))))) = some (r1, r2) := by rw [← hbq15] at H; exact H
                    have Nbq15 := Aside0.mk hbq15
                    clear hbq15
                    by_cases c16 : bq15 = true
                    · subst c16
                      have H1 : (if (wrap64 (x6_1 - 1)) = 0 then (if 0 ≤ x7_1 then (if x7_1 ≤ (wrap64 (x9_1 + 1)) then (if (wrap64 (x9_1 + 1)) ≤ (l0.length : Int) then ((spec_l01Normal.f k1 ((l0.take ((wrap64 (x9_1 + 1)) : Int).toNat).drop (x7_1 : Int).toNat)).bind fun t111 => (if x5_1.length < 5864062014805 then (spec_BlocksOf.l0 k1 l0 (x5_1 ++ [t111]) (wrap64 (x6_1 - 1)) (wrap64 (x9_1 + 1)) x8_1 (wrap64 (x9_1 + 1))) else (none))) else (none)) else (none)) else (none)) else (spec_BlocksOf.l0 k1 l0 x5_1 (wrap64 (x6_1 - 1)) x7_1 x8_1 (wrap64 (x9_1 + 1)))) = some (r1, r2) := by rw [if_pos rfl] at H; exact H
                      clear H
                      have H := H1
                      clear H1
                      by_cases c17 : (wrap64 (x6_1 - 1)) = 0
                      · rw [if_pos c17] at H
                        have c17b0 : ((wrap64 (x6_1 - 1)) == 0) = true := beq_iff_eq.mpr c17
                        have c17b1 : ((wrap64 (x6_1 - 1)) != 0) = false := bne_eq_false_iff_eq.mpr c17
                        clear c17
                        by_cases c18 : 0 ≤ x7_1
                        · rw [if_pos c18] at H
                          have c18b0 := eq_true c18
                          have c18b1 : decide (0 ≤ x7_1) = true := decide_eq_true c18
                          clear c18
                          by_cases c19 : x7_1 ≤ (wrap64 (x9_1 + 1))
                          · rw [if_pos c19] at H
                            have c19b0 := eq_true c19
                            have c19b1 : decide (x7_1 ≤ (wrap64 (x9_1 + 1))) = true := decide_eq_true c19
                            by_cases c20 : (wrap64 (x9_1 + 1)) ≤ (l0.length : Int)
                            · rw [if_pos c20] at H
                              have c20b0 := eq_true c20
                              have c20b1 : decide ((wrap64 (x9_1 + 1)) ≤ (l0.length : Int)) = true := decide_eq_true c20
                              replace H := Option.bind_eq_some_iff.mp H
                              obtain ⟨t111, A210, H⟩ := H
                              replace H : (if x5_1.length < 5864062014805 then (spec_BlocksOf.l0 k1 l0 (x5_1 ++ [t111]) (wrap64 (x6_1 - 1)) (wrap64 (x9_1 + 1)) x8_1 (wrap64 (x9_1 + 1))) else (none)) = some (r1, r2) := H
                              have A21 := Aside0.mk A210
                              clear A210
                              by_cases c22 : x5_1.length < 5864062014805
                              · rw [if_pos c22] at H
                                have LMc22 := Aside0.mk c22
                                clear c22
                                obtain ⟨y114, hy114⟩ : ∃ y_ : List (List Int), y_ = (x5_1 ++ [t111]) := ⟨_, rfl⟩
                                replace H : (spec_BlocksOf.l0 k1 l0 y114 (wrap64 (x6_1 - 1)) (wrap64 (x9_1 + 1)) x8_1 (wrap64 (x9_1 + 1))) = some (r1, r2) := by first | (rw [hy114]; with_reducible exact H) | (have H2_ := (Option.bind_some _ _).symm.trans H; rw [hy114]; with_reducible exact H2_) | (have H2_ := (Option.bind_some _ _).symm.trans H; with_reducible exact H2_) | with_reducible exact H | (rw [hy114]; exact H) | exact H
                                have Ny114 := Aside0.mk hy114
                                clear hy114
                                have H' := Aside0.mk H
                                clear H
                                have p108 : 0 ≤ (x9_1 : Int) := of_decide_eq_true (by first | (with_reducible assumption) | assumption)
                                have q108 : x9_1 < (l0.length : Int) := of_decide_eq_true (by first | (with_reducible assumption) | assumption)
                                obtain ⟨ad108, e108, hx108_0⟩ := Kd.at_int HR0.out x9_1 p108 q108
                                cases e108
                                replace hx108_0 := (HB.out.cell (World.block_lt_of_cell? w _ hx108_0)).trans hx108_0
                                replace p108 := eq_true p108
                                replace q108 := eq_true q108
                                obtain ⟨Ao23, co23, eo23⟩ := Kd.R_slice HO_8.out
                                subst eo23
                                have p109 : 0 ≤ ((rd l0 x9_1) : Int) := of_decide_eq_true (by first | (with_reducible assumption) | assumption)
                                have q109 : (rd l0 x9_1) < (x8_1.length : Int) := of_decide_eq_true (by first | (with_reducible assumption) | assumption)
                                obtain ⟨ad109, e109, hx109_0⟩ := Kd.at_bool (Kd.R_reads' HO_8.out).2.2 (rd l0 x9_1) p109 q109
                                (try rw [← Nbq15.out] at hx109_0)
                                cases e109
                                replace p109 := eq_true p109
                                replace q109 := eq_true q109
                                obtain ⟨i024, hi024, _, hsz24, _⟩ := info_parts info2
                                obtain ⟨A24, hcut24, hA24, hC24⟩ := print_mid_of (P := Try.prog) (Value.int .i64) 0 28 2 .i64 .i64 Try.underlying28 hi024 hsz24 (some ad108) c0 l0 x7_1 (wrap64 (x9_1 + 1)) (of_decide_eq_true (by first | (with_reducible assumption) | assumption)) (by first | omega | exact of_decide_eq_true (by first | (with_reducible assumption) | assumption)) (of_decide_eq_true (by first | (with_reducible assumption) | assumption)) HC0.out
                                have HR110 := Aside0.mk (Kd.C_of_reads (h1 := fun _ => rfl) (hA24 _ (Kd.reads_of_C HR0.out)))
                                have HC110 := Aside0.mk hC24
                                clear hA24 hC24 hi024 hsz24
                                go_wp2_with (first | ((with_reducible refine gate_callee (f := 80) rfl ?_); refine goesL_ (some 50) rfl rfl Try.func80 (by kernel_rfl) rfl #[.slice A24 ((l0.take ((wrap64 (x9_1 + 1)) : Int).toNat).drop (x7_1 : Int).toNat).length (c0 - x7_1.toNat)] rfl (by (try simp only [List.map_toArray, List.map_cons, List.map_nil]); first | done | (rw [show ((l0.take ((wrap64 (x9_1 + 1)) : Int).toNat).drop (x7_1 : Int).toNat).length = ((wrap64 (x9_1 + 1)).toNat - x7_1.toNat) from (by rw [List.length_drop, List.length_take]; have h_ : ((wrap64 (x9_1 + 1)) : Int) ≤ (l0.length : Int) := of_decide_eq_true (by first | (with_reducible assumption) | assumption); omega)] <;> rfl) | rfl | (simp only [List.length_drop, List.length_take]; rfl)) ?_; (with_reducible refine (spec_l01Normal.calls k1 _ _ ((l0.take ((wrap64 (x9_1 + 1)) : Int).toNat).drop (x7_1 : Int).toNat) t111 _ ?side1 ?side2 A21.out).mono ?_); (case side1 => repeat (first | exact (Kd.C_below HR110.out HB.out) | (with_reducible refine Kd.C_alloc ?_ _) | (with_reducible refine Kd.C_drewN ?_ _) | (with_reducible refine Kd.C_drew ?_))); (case side2 => exact HC110.out); rintro e w25 ⟨v112, rfl, ho0, hb⟩; refine ⟨_, rfl, ?_⟩; have n0_ := Aside0.mk (Kd.S_elder' (by (with_reducible repeat (first | apply Kd.S_alloc | apply Kd.S_drewN | apply Kd.S_drew)); exact HO_5.out) (Kd.R_base ho0) hb); have n1_ := Aside0.mk (Kd.R_below (by (with_reducible repeat (first | apply Kd.R_alloc | apply Kd.R_drewN | apply Kd.R_drew)); exact HO_8.out) hb); have n2_ := Aside0.mk (Kd.R_lower ho0 (below_size (by repeat (first | (with_reducible first | exact HB.out | apply below_alloc | apply pw_below_drewN | apply below_drew1) | exact HB.out)))); have n3_ := Aside0.mk (below_step (by repeat (first | (with_reducible first | exact HB.out | apply below_alloc | apply pw_below_drewN | apply below_drew1) | exact HB.out)) hb); clear HO_5; clear HO_8; clear HB; have HO_5 := n0_; have HO_8 := n1_; have HO113 := n2_; have HB := n3_; clear n0_ n1_ n2_ n3_; (try clear hb); (try clear hb2); (try clear hk); (try clear hi); (try clear ho0); obtain ⟨Ao27, co27, eo27⟩ := Kd.R_slice HO113.out; subst eo27) | ((with_reducible refine gate_builtin (b := .append) (xs := #[.tmp 44, .tmp 51]) rfl ?_); at_builtin; refine Kd.S_append (Kd.slice 2 (Kd.int .i64)) (w0 := w) w.heap.size rfl (.tmp 44) (.tmp 51) 22 28 (.slice none 0 0) 24 rfl Try.underlying22 info28 rfl (by decide) (by omega) u5 x5_1 t111 [.slice Ao27 t111.length co27] (fun _ => True) (fun k_ => some k_ = (.slice Ao27 t111.length co27 : Value).ownBlock) rfl rfl ?aP (fun k_ hk_ => ((Kd.R_mono (ok' := fun k_ => ((fun _ => True)) k_ ∧ some k_ ≠ (u5 : Value).ownBlock) (Kd.R_apart' (HO113.out) (Kd.S_typed HO_5.out) (by decide)) (fun k_ hk => ⟨trivial, hk.2⟩))).1 k_ hk_.symm) ?aF ?aO ?aB ?aS ?aL ?_; (case aP => exact Kd.M_row (Kd.R_mono (Kd.R_tight rfl (Kd.R_mono (ok' := fun k_ => ((fun _ => True)) k_ ∧ some k_ ≠ (u5 : Value).ownBlock) (Kd.R_apart' (HO113.out) (Kd.S_typed HO_5.out) (by decide)) (fun k_ hk => ⟨trivial, hk.2⟩))) (fun _ h_ => h_))); (case aB => exact (by repeat (first | (with_reducible first | exact HB.out | apply below_alloc | apply pw_below_drewN | apply below_drew1) | exact HB.out))); (case aF => exact (fun _ _ => trivial)); (case aO => exact (by (with_reducible repeat (first | apply Kd.S_alloc | apply Kd.S_drewN | apply Kd.S_drew)); exact Kd.S_mono HO_5.out (fun k_ hk => ⟨trivial, fun e_ => hk.2 e_⟩))); (case aS => exact (below_size (by repeat (first | (with_reducible first | exact HB.out | apply below_alloc | apply pw_below_drewN | apply below_drew1) | exact HB.out)))); (case aL => have := LMc22.out; omega); intro v115 w26 ho hb hg hat; rw [← Ny114.out] at ho; have n0_ := Aside0.mk (Kd.R_over' (by (with_reducible repeat (first | apply Kd.R_alloc | apply Kd.R_drewN | apply Kd.R_drew)); exact HO_8.out) (Kd.S_typed (by (with_reducible repeat (first | apply Kd.S_alloc | apply Kd.S_drewN | apply Kd.S_drew)); exact HO_5.out)) (by decide) hg); have n1_ := Aside0.mk (hb); have n2_ := Aside0.mk (ho); clear HO_8; clear HB; clear HO_5; clear HO113; have HO_8 := n0_; have HB := n1_; have HO116 := n2_; clear n0_ n1_ n2_; clear ho hb hg hat))
                                go_roundg k1
                                case measure => have := HK1.out; omega
                                case rel => exact ⟨(y114), (wrap64 (x6_1 - 1)), (wrap64 (x9_1 + 1)), (x8_1), (wrap64 (x9_1 + 1)), (by first | rfl | (simp; done) | (simp [*]; done)), (by first | rfl | (simp; done) | (simp [*]; done)), (by first | rfl | (simp; done) | (simp [*]; done)), H', ⟨by have := HK1.out; omega⟩, ⟨by (with_reducible repeat (first | apply Kd.S_alloc | apply Kd.S_drewN | apply Kd.S_drew)); exact HO116.out⟩, ⟨by (with_reducible repeat (first | apply Kd.R_alloc | apply Kd.R_drewN | apply Kd.R_drew)); exact HO_8.out⟩, ⟨by repeat (first | (with_reducible first | exact HB.out | apply below_alloc | apply pw_below_drewN | apply below_drew1) | exact HB.out)⟩⟩
                              · rw [if_neg c22] at H
                                exact absurd H (by simp)
                            · rw [if_neg c20] at H
                              exact absurd H (by simp)
                          · rw [if_neg c19] at H
                            exact absurd H (by simp)
                        · rw [if_neg c18] at H
                          exact absurd H (by simp)
                      · rw [if_neg c17] at H
                        have c17b0 : ((wrap64 (x6_1 - 1)) == 0) = false := beq_eq_false_iff_ne.mpr c17
                        have c17b1 : ((wrap64 (x6_1 - 1)) != 0) = true := bne_iff_ne.mpr c17
                        have H' := Aside0.mk H
                        clear H
                        have p108 : 0 ≤ (x9_1 : Int) := of_decide_eq_true (by first | (with_reducible assumption) | assumption)
                        have q108 : x9_1 < (l0.length : Int) := of_decide_eq_true (by first | (with_reducible assumption) | assumption)
                        obtain ⟨ad108, e108, hx108_0⟩ := Kd.at_int HR0.out x9_1 p108 q108
                        cases e108
                        replace hx108_0 := (HB.out.cell (World.block_lt_of_cell? w _ hx108_0)).trans hx108_0
                        replace p108 := eq_true p108
                        replace q108 := eq_true q108
                        obtain ⟨Ao28, co28, eo28⟩ := Kd.R_slice HO_8.out
                        subst eo28
                        have p109 : 0 ≤ ((rd l0 x9_1) : Int) := of_decide_eq_true (by first | (with_reducible assumption) | assumption)
                        have q109 : (rd l0 x9_1) < (x8_1.length : Int) := of_decide_eq_true (by first | (with_reducible assumption) | assumption)
                        obtain ⟨ad109, e109, hx109_0⟩ := Kd.at_bool (Kd.R_reads' HO_8.out).2.2 (rd l0 x9_1) p109 q109
                        (try rw [← Nbq15.out] at hx109_0)
                        cases e109
                        replace p109 := eq_true p109
                        replace q109 := eq_true q109
                        go_wp2
                        go_roundg k1
                        case measure => have := HK1.out; omega
                        case rel => exact ⟨(x5_1), (wrap64 (x6_1 - 1)), (x7_1), (x8_1), (wrap64 (x9_1 + 1)), (by first | rfl | (simp; done) | (simp [*]; done)), (by first | rfl | (simp; done) | (simp [*]; done)), (by first | rfl | (simp; done) | (simp [*]; done)), H', ⟨by have := HK1.out; omega⟩, ⟨by (with_reducible repeat (first | apply Kd.S_alloc | apply Kd.S_drewN | apply Kd.S_drew)); exact HO_5.out⟩, ⟨by (with_reducible repeat (first | apply Kd.R_alloc | apply Kd.R_drewN | apply Kd.R_drew)); exact HO_8.out⟩, ⟨by repeat (first | (with_reducible first | exact HB.out | apply below_alloc | apply pw_below_drewN | apply below_drew1) | exact HB.out)⟩⟩
                    · replace c16 := Bool.eq_false_iff.mpr c16
                      subst c16
                      have H1 : ((some (x8_1.set ((rd l0 x9_1) : Int).toNat true : List Bool)).bind fun y118 => (if (wrap64 (x6_1 + 1)) = 0 then (if 0 ≤ x7_1 then (if x7_1 ≤ (wrap64 (x9_1 + 1)) then (if (wrap64 (x9_1 + 1)) ≤ (l0.length : Int) then ((spec_l01Normal.f k1 ((l0.take ((wrap64 (x9_1 + 1)) : Int).toNat).drop (x7_1 : Int).toNat)).bind fun t120 => (if x5_1.length < 5864062014805 then (spec_BlocksOf.l0 k1 l0 (x5_1 ++ [t120]) (wrap64 (x6_1 + 1)) (wrap64 (x9_1 + 1)) y118 (wrap64 (x9_1 + 1))) else (none))) else (none)) else (none)) else (none)) else (spec_BlocksOf.l0 k1 l0 x5_1 (wrap64 (x6_1 + 1)) x7_1 y118 (wrap64 (x9_1 + 1))))) = some (r1, r2) := by rw [if_neg (show ¬ (false = true) by decide)] at H; exact H
                      clear H
                      have H := H1
                      clear H1
                      obtain ⟨y118, hy118⟩ : ∃ y_ : List Bool, y_ = (x8_1.set ((rd l0 x9_1) : Int).toNat true) := ⟨_, rfl⟩
                      replace H : (if (wrap64 (x6_1 + 1)) = 0 then (if 0 ≤ x7_1 then (if x7_1 ≤ (wrap64 (x9_1 + 1)) then (if (wrap64 (x9_1 + 1)) ≤ (l0.length : Int) then ((spec_l01Normal.f k1 ((l0.take ((wrap64 (x9_1 + 1)) : Int).toNat).drop (x7_1 : Int).toNat)).bind fun t120 => (if x5_1.length < 5864062014805 then (spec_BlocksOf.l0 k1 l0 (x5_1 ++ [t120]) (wrap64 (x6_1 + 1)) (wrap64 (x9_1 + 1)) y118 (wrap64 (x9_1 + 1))) else (none))) else (none)) else (none)) else (none)) else (spec_BlocksOf.l0 k1 l0 x5_1 (wrap64 (x6_1 + 1)) x7_1 y118 (wrap64 (x9_1 + 1)))) = some (r1, r2) := by first | (rw [hy118]; with_reducible exact H) | (have H2_ := (Option.bind_some _ _).symm.trans H; rw [hy118]; with_reducible exact H2_) | (have H2_ := (Option.bind_some _ _).symm.trans H; with_reducible exact H2_) | with_reducible exact H | (rw [hy118]; exact H) | exact H
                      have Ny118 := Aside0.mk hy118
                      clear hy118
                      by_cases c30 : (wrap64 (x6_1 + 1)) = 0
                      · rw [if_pos c30] at H
                        have c30b0 : ((wrap64 (x6_1 + 1)) == 0) = true := beq_iff_eq.mpr c30
                        have c30b1 : ((wrap64 (x6_1 + 1)) != 0) = false := bne_eq_false_iff_eq.mpr c30
                        clear c30
                        by_cases c31 : 0 ≤ x7_1
                        · rw [if_pos c31] at H
                          have c31b0 := eq_true c31
                          have c31b1 : decide (0 ≤ x7_1) = true := decide_eq_true c31
                          clear c31
                          by_cases c32 : x7_1 ≤ (wrap64 (x9_1 + 1))
                          · rw [if_pos c32] at H
                            have c32b0 := eq_true c32
                            have c32b1 : decide (x7_1 ≤ (wrap64 (x9_1 + 1))) = true := decide_eq_true c32
                            by_cases c33 : (wrap64 (x9_1 + 1)) ≤ (l0.length : Int)
                            · rw [if_pos c33] at H
                              have c33b0 := eq_true c33
                              have c33b1 : decide ((wrap64 (x9_1 + 1)) ≤ (l0.length : Int)) = true := decide_eq_true c33
                              replace H := Option.bind_eq_some_iff.mp H
                              obtain ⟨t120, A340, H⟩ := H
                              replace H : (if x5_1.length < 5864062014805 then (spec_BlocksOf.l0 k1 l0 (x5_1 ++ [t120]) (wrap64 (x6_1 + 1)) (wrap64 (x9_1 + 1)) y118 (wrap64 (x9_1 + 1))) else (none)) = some (r1, r2) := H
                              have A34 := Aside0.mk A340
                              clear A340
                              by_cases c35 : x5_1.length < 5864062014805
                              · rw [if_pos c35] at H
                                have LMc35 := Aside0.mk c35
                                clear c35
                                obtain ⟨y123, hy123⟩ : ∃ y_ : List (List Int), y_ = (x5_1 ++ [t120]) := ⟨_, rfl⟩
                                replace H : (spec_BlocksOf.l0 k1 l0 y123 (wrap64 (x6_1 + 1)) (wrap64 (x9_1 + 1)) y118 (wrap64 (x9_1 + 1))) = some (r1, r2) := by first | (rw [hy123]; with_reducible exact H) | (have H2_ := (Option.bind_some _ _).symm.trans H; rw [hy123]; with_reducible exact H2_) | (have H2_ := (Option.bind_some _ _).symm.trans H; with_reducible exact H2_) | with_reducible exact H | (rw [hy123]; exact H) | exact H
                                have Ny123 := Aside0.mk hy123
                                clear hy123
                                have H' := Aside0.mk H
                                clear H
                                have p108 : 0 ≤ (x9_1 : Int) := of_decide_eq_true (by first | (with_reducible assumption) | assumption)
                                have q108 : x9_1 < (l0.length : Int) := of_decide_eq_true (by first | (with_reducible assumption) | assumption)
                                obtain ⟨ad108, e108, hx108_0⟩ := Kd.at_int HR0.out x9_1 p108 q108
                                cases e108
                                replace hx108_0 := (HB.out.cell (World.block_lt_of_cell? w _ hx108_0)).trans hx108_0
                                replace p108 := eq_true p108
                                replace q108 := eq_true q108
                                obtain ⟨Ao36, co36, eo36⟩ := Kd.R_slice HO_8.out
                                subst eo36
                                have p109 : 0 ≤ ((rd l0 x9_1) : Int) := of_decide_eq_true (by first | (with_reducible assumption) | assumption)
                                have q109 : (rd l0 x9_1) < (x8_1.length : Int) := of_decide_eq_true (by first | (with_reducible assumption) | assumption)
                                obtain ⟨ad109, e109, hx109_0⟩ := Kd.at_bool (Kd.R_reads' HO_8.out).2.2 (rd l0 x9_1) p109 q109
                                (try rw [← Nbq15.out] at hx109_0)
                                cases e109
                                replace p109 := eq_true p109
                                replace q109 := eq_true q109
                                have p117 : 0 ≤ (x9_1 : Int) := of_decide_eq_true (by first | (with_reducible assumption) | assumption)
                                have q117 : x9_1 < (l0.length : Int) := of_decide_eq_true (by first | (with_reducible assumption) | assumption)
                                obtain ⟨ad117, e117, hx117_0⟩ := Kd.at_int HR0.out x9_1 p117 q117
                                obtain rfl : ad108 = ad117 := (by injection e117)
                                replace hx117_0 := (HB.out.cell (World.block_lt_of_cell? w _ hx117_0)).trans hx117_0
                                replace p117 := eq_true p117
                                replace q117 := eq_true q117
                                have p29 : 0 ≤ ((rd l0 x9_1) : Int) := of_decide_eq_true (by first | (with_reducible assumption) | assumption)
                                have q29 : ((rd l0 x9_1) : Int) < ((x8_1.length : Int) : Int) := of_decide_eq_true (by first | (with_reducible assumption) | assumption)
                                obtain ⟨go29, co29, eo29, gb29, gl29, cl29, HG29⟩ := Kd.R_form HO_8.out (by omega)
                                (first | cases eo29 | (injection eo29 with ea_ en_ ec_; (first | subst ea_ | (injection ea_ with ea_; subst ea_)); subst ec_; clear en_))
                                have GB29 := Aside0.mk gb29
                                have GG29 := Aside0.mk HG29
                                clear gb29 gl29 HG29
                                (first | simp only [add_plain] at hx109_0 | skip)
                                obtain ⟨hx29_0, hf29_0⟩ := Kd.R_celln false HO_8.out ((rd l0 x9_1) : Int) p29 q29
                                replace p29 := eq_true p29
                                replace q29 := eq_true q29
                                have HP37 := Kd.R_putg HO_8.out ((rd l0 x9_1) : Int) true
                                go_wp2_with (first | ((with_reducible refine gate_store (t := 4) (p := 39) rfl ?_); refine store_event (t := 4) (p := 39) (v := ?vo_w38) (w1 := (wr.setCell ⟨go29, ((rd l0 x9_1) : Int).toNat, none⟩ (.bool true))) ?hg ?ho ?hn ?hr ?_; (case ho => rfl); (case hg => rfl); (case hn => rfl); (case hr => first | (go_simp; done) | (go_simp; rfl)); intro w38 hw; have hg : wr.grownBy w38 (some go29) := (by rw [hw]; exact HP37.2); have hp_ : Kd.R Kd.bool 4 w38 w.heap.size (fun _ => True) (.slice (some ⟨go29, 0, none⟩) x8_1.length co36) y118 := (by rw [hw, Ny118.out]; exact HP37.1); clear HP37; have n0_ := Aside0.mk (Kd.S_over' (v := (.slice (some ⟨go29, 0, none⟩) x8_1.length co36)) (by (with_reducible repeat (first | apply Kd.S_alloc | apply Kd.S_drewN | apply Kd.S_drew)); exact HO_5.out) (Kd.R_typed HO_8.out) (by decide) hg); have n1_ := Aside0.mk (hp_); have n2_ := Aside0.mk ((by rw [hw]; exact below_set (HB.out) GB29.out : Below w.heap.size w w38)); clear HO_5; clear HO_8; clear HB; have HO_5 := n0_; have HO_8 := n1_; have HB := n2_; clear n0_ n1_ n2_; clear hg hw hp_; obtain ⟨i039, hi039, _, hsz39, _⟩ := info_parts info2; obtain ⟨A39, hcut39, hA39, hC39⟩ := print_mid_of (P := Try.prog) (Value.int .i64) 0 28 2 .i64 .i64 Try.underlying28 hi039 hsz39 (some ad108) c0 l0 x7_1 (wrap64 (x9_1 + 1)) (of_decide_eq_true (by first | (with_reducible assumption) | assumption)) (by first | omega | exact of_decide_eq_true (by first | (with_reducible assumption) | assumption)) (of_decide_eq_true (by first | (with_reducible assumption) | assumption)) HC0.out; have HR119 := Aside0.mk (Kd.C_of_reads (h1 := fun _ => rfl) (hA39 _ (Kd.reads_of_C HR0.out))); have HC119 := Aside0.mk hC39; clear hA39 hC39 hi039 hsz39) | ((with_reducible refine gate_callee (f := 80) rfl ?_); refine goesL_ (some 50) rfl rfl Try.func80 (by kernel_rfl) rfl #[.slice A39 ((l0.take ((wrap64 (x9_1 + 1)) : Int).toNat).drop (x7_1 : Int).toNat).length (c0 - x7_1.toNat)] rfl (by (try simp only [List.map_toArray, List.map_cons, List.map_nil]); first | done | (rw [show ((l0.take ((wrap64 (x9_1 + 1)) : Int).toNat).drop (x7_1 : Int).toNat).length = ((wrap64 (x9_1 + 1)).toNat - x7_1.toNat) from (by rw [List.length_drop, List.length_take]; have h_ : ((wrap64 (x9_1 + 1)) : Int) ≤ (l0.length : Int) := of_decide_eq_true (by first | (with_reducible assumption) | assumption); omega)] <;> rfl) | rfl | (simp only [List.length_drop, List.length_take]; rfl)) ?_; (with_reducible refine (spec_l01Normal.calls k1 _ _ ((l0.take ((wrap64 (x9_1 + 1)) : Int).toNat).drop (x7_1 : Int).toNat) t120 _ ?side1 ?side2 A34.out).mono ?_); (case side1 => repeat (first | exact (Kd.C_below HR119.out HB.out) | (with_reducible refine Kd.C_alloc ?_ _) | (with_reducible refine Kd.C_drewN ?_ _) | (with_reducible refine Kd.C_drew ?_))); (case side2 => exact HC119.out); rintro e w40 ⟨v121, rfl, ho0, hb⟩; refine ⟨_, rfl, ?_⟩; have n0_ := Aside0.mk (Kd.S_elder' (by (with_reducible repeat (first | apply Kd.S_alloc | apply Kd.S_drewN | apply Kd.S_drew)); exact HO_5.out) (Kd.R_base ho0) hb); have n1_ := Aside0.mk (Kd.R_below (by (with_reducible repeat (first | apply Kd.R_alloc | apply Kd.R_drewN | apply Kd.R_drew)); exact HO_8.out) hb); have n2_ := Aside0.mk (Kd.R_lower ho0 (below_size (by repeat (first | (with_reducible first | exact HB.out | apply below_alloc | apply pw_below_drewN | apply below_drew1) | exact HB.out)))); have n3_ := Aside0.mk (below_step (by repeat (first | (with_reducible first | exact HB.out | apply below_alloc | apply pw_below_drewN | apply below_drew1) | exact HB.out)) hb); clear HO_5; clear HO_8; clear HB; have HO_5 := n0_; have HO_8 := n1_; have HO122 := n2_; have HB := n3_; clear n0_ n1_ n2_ n3_; (try clear hb); (try clear hb2); (try clear hk); (try clear hi); (try clear ho0); obtain ⟨Ao42, co42, eo42⟩ := Kd.R_slice HO122.out; subst eo42) | ((with_reducible refine gate_builtin (b := .append) (xs := #[.tmp 44, .tmp 51]) rfl ?_); at_builtin; refine Kd.S_append (Kd.slice 2 (Kd.int .i64)) (w0 := w) w.heap.size rfl (.tmp 44) (.tmp 51) 22 28 (.slice none 0 0) 24 rfl Try.underlying22 info28 rfl (by decide) (by omega) u5 x5_1 t120 [.slice Ao42 t120.length co42] (fun _ => True) (fun k_ => some k_ = (.slice Ao42 t120.length co42 : Value).ownBlock) rfl rfl ?aP (fun k_ hk_ => ((Kd.R_mono (ok' := fun k_ => ((fun _ => True)) k_ ∧ some k_ ≠ (u5 : Value).ownBlock) (Kd.R_apart' (HO122.out) (Kd.S_typed HO_5.out) (by decide)) (fun k_ hk => ⟨trivial, hk.2⟩))).1 k_ hk_.symm) ?aF ?aO ?aB ?aS ?aL ?_; (case aP => exact Kd.M_row (Kd.R_mono (Kd.R_tight rfl (Kd.R_mono (ok' := fun k_ => ((fun _ => True)) k_ ∧ some k_ ≠ (u5 : Value).ownBlock) (Kd.R_apart' (HO122.out) (Kd.S_typed HO_5.out) (by decide)) (fun k_ hk => ⟨trivial, hk.2⟩))) (fun _ h_ => h_))); (case aB => exact (by repeat (first | (with_reducible first | exact HB.out | apply below_alloc | apply pw_below_drewN | apply below_drew1) | exact HB.out))); (case aF => exact (fun _ _ => trivial)); (case aO => exact (by (with_reducible repeat (first | apply Kd.S_alloc | apply Kd.S_drewN | apply Kd.S_drew)); exact Kd.S_mono HO_5.out (fun k_ hk => ⟨trivial, fun e_ => hk.2 e_⟩))); (case aS => exact (below_size (by repeat (first | (with_reducible first | exact HB.out | apply below_alloc | apply pw_below_drewN | apply below_drew1) | exact HB.out)))); (case aL => have := LMc35.out; omega); intro v124 w41 ho hb hg hat; rw [← Ny123.out] at ho; have n0_ := Aside0.mk (Kd.R_over' (by (with_reducible repeat (first | apply Kd.R_alloc | apply Kd.R_drewN | apply Kd.R_drew)); exact HO_8.out) (Kd.S_typed (by (with_reducible repeat (first | apply Kd.S_alloc | apply Kd.S_drewN | apply Kd.S_drew)); exact HO_5.out)) (by decide) hg); have n1_ := Aside0.mk (hb); have n2_ := Aside0.mk (ho); clear HO_8; clear HB; clear HO_5; clear HO122; have HO_8 := n0_; have HB := n1_; have HO125 := n2_; clear n0_ n1_ n2_; clear ho hb hg hat))
                                go_roundg k1
                                case measure => have := HK1.out; omega
                                case rel => exact ⟨(y123), (wrap64 (x6_1 + 1)), (wrap64 (x9_1 + 1)), (y118), (wrap64 (x9_1 + 1)), (by first | rfl | (simp; done) | (simp [*]; done)), (by first | rfl | (simp; done) | (simp [*]; done)), (by first | rfl | (simp; done) | (simp [*]; done)), H', ⟨by have := HK1.out; omega⟩, ⟨by (with_reducible repeat (first | apply Kd.S_alloc | apply Kd.S_drewN | apply Kd.S_drew)); exact HO125.out⟩, ⟨by (with_reducible repeat (first | apply Kd.R_alloc | apply Kd.R_drewN | apply Kd.R_drew)); exact HO_8.out⟩, ⟨by repeat (first | (with_reducible first | exact HB.out | apply below_alloc | apply pw_below_drewN | apply below_drew1) | exact HB.out)⟩⟩
                              · rw [if_neg c35] at H
                                exact absurd H (by simp)
                            · rw [if_neg c33] at H
                              exact absurd H (by simp)
                          · rw [if_neg c32] at H
                            exact absurd H (by simp)
                        · rw [if_neg c31] at H
                          exact absurd H (by simp)
                      · rw [if_neg c30] at H
                        have c30b0 : ((wrap64 (x6_1 + 1)) == 0) = false := beq_eq_false_iff_ne.mpr c30
                        have c30b1 : ((wrap64 (x6_1 + 1)) != 0) = true := bne_iff_ne.mpr c30
                        have H' := Aside0.mk H
                        clear H
                        have p108 : 0 ≤ (x9_1 : Int) := of_decide_eq_true (by first | (with_reducible assumption) | assumption)
                        have q108 : x9_1 < (l0.length : Int) := of_decide_eq_true (by first | (with_reducible assumption) | assumption)
                        obtain ⟨ad108, e108, hx108_0⟩ := Kd.at_int HR0.out x9_1 p108 q108
                        cases e108
                        replace hx108_0 := (HB.out.cell (World.block_lt_of_cell? w _ hx108_0)).trans hx108_0
                        replace p108 := eq_true p108
                        replace q108 := eq_true q108
                        obtain ⟨Ao43, co43, eo43⟩ := Kd.R_slice HO_8.out
                        subst eo43
                        have p109 : 0 ≤ ((rd l0 x9_1) : Int) := of_decide_eq_true (by first | (with_reducible assumption) | assumption)
                        have q109 : (rd l0 x9_1) < (x8_1.length : Int) := of_decide_eq_true (by first | (with_reducible assumption) | assumption)
                        obtain ⟨ad109, e109, hx109_0⟩ := Kd.at_bool (Kd.R_reads' HO_8.out).2.2 (rd l0 x9_1) p109 q109
                        (try rw [← Nbq15.out] at hx109_0)
                        cases e109
                        replace p109 := eq_true p109
                        replace q109 := eq_true q109
                        have p117 : 0 ≤ (x9_1 : Int) := of_decide_eq_true (by first | (with_reducible assumption) | assumption)
                        have q117 : x9_1 < (l0.length : Int) := of_decide_eq_true (by first | (with_reducible assumption) | assumption)
                        obtain ⟨ad117, e117, hx117_0⟩ := Kd.at_int HR0.out x9_1 p117 q117
                        obtain rfl : ad108 = ad117 := (by injection e117)
                        replace hx117_0 := (HB.out.cell (World.block_lt_of_cell? w _ hx117_0)).trans hx117_0
                        replace p117 := eq_true p117
                        replace q117 := eq_true q117
                        have p29 : 0 ≤ ((rd l0 x9_1) : Int) := of_decide_eq_true (by first | (with_reducible assumption) | assumption)
                        have q29 : ((rd l0 x9_1) : Int) < ((x8_1.length : Int) : Int) := of_decide_eq_true (by first | (with_reducible assumption) | assumption)
                        obtain ⟨go29, co29, eo29, gb29, gl29, cl29, HG29⟩ := Kd.R_form HO_8.out (by omega)
                        (first | cases eo29 | (injection eo29 with ea_ en_ ec_; (first | subst ea_ | (injection ea_ with ea_; subst ea_)); subst ec_; clear en_))
                        have GB29 := Aside0.mk gb29
                        have GG29 := Aside0.mk HG29
                        clear gb29 gl29 HG29
                        (first | simp only [add_plain] at hx109_0 | skip)
                        obtain ⟨hx29_0, hf29_0⟩ := Kd.R_celln false HO_8.out ((rd l0 x9_1) : Int) p29 q29
                        replace p29 := eq_true p29
                        replace q29 := eq_true q29
                        have HP44 := Kd.R_putg HO_8.out ((rd l0 x9_1) : Int) true
                        go_wp2_with (first | ((with_reducible refine gate_store (t := 4) (p := 39) rfl ?_); refine store_event (t := 4) (p := 39) (v := ?vo_w45) (w1 := (wr.setCell ⟨go29, ((rd l0 x9_1) : Int).toNat, none⟩ (.bool true))) ?hg ?ho ?hn ?hr ?_; (case ho => rfl); (case hg => rfl); (case hn => rfl); (case hr => first | (go_simp; done) | (go_simp; rfl)); intro w45 hw; have hg : wr.grownBy w45 (some go29) := (by rw [hw]; exact HP44.2); have hp_ : Kd.R Kd.bool 4 w45 w.heap.size (fun _ => True) (.slice (some ⟨go29, 0, none⟩) x8_1.length co43) y118 := (by rw [hw, Ny118.out]; exact HP44.1); clear HP44; have n0_ := Aside0.mk (Kd.S_over' (v := (.slice (some ⟨go29, 0, none⟩) x8_1.length co43)) (by (with_reducible repeat (first | apply Kd.S_alloc | apply Kd.S_drewN | apply Kd.S_drew)); exact HO_5.out) (Kd.R_typed HO_8.out) (by decide) hg); have n1_ := Aside0.mk (hp_); have n2_ := Aside0.mk ((by rw [hw]; exact below_set (HB.out) GB29.out : Below w.heap.size w w45)); clear HO_5; clear HO_8; clear HB; have HO_5 := n0_; have HO_8 := n1_; have HB := n2_; clear n0_ n1_ n2_; clear hg hw hp_))
                        go_roundg k1
                        case measure => have := HK1.out; omega
                        case rel => exact ⟨(x5_1), (wrap64 (x6_1 + 1)), (x7_1), (y118), (wrap64 (x9_1 + 1)), (by first | rfl | (simp; done) | (simp [*]; done)), (by first | rfl | (simp; done) | (simp [*]; done)), (by first | rfl | (simp; done) | (simp [*]; done)), H', ⟨by have := HK1.out; omega⟩, ⟨by (with_reducible repeat (first | apply Kd.S_alloc | apply Kd.S_drewN | apply Kd.S_drew)); exact HO_5.out⟩, ⟨by (with_reducible repeat (first | apply Kd.R_alloc | apply Kd.R_drewN | apply Kd.R_drew)); exact HO_8.out⟩, ⟨by repeat (first | (with_reducible first | exact HB.out | apply below_alloc | apply pw_below_drewN | apply below_drew1) | exact HB.out)⟩⟩
                  · rw [if_neg c14] at H
                    exact absurd H (by simp)
                · rw [if_neg c13] at H
                  exact absurd H (by simp)
              · rw [if_neg c12] at H
                exact absurd H (by simp)
            · rw [if_neg c11] at H
              have c11b0 : decide (x9_1 < (l0.length : Int)) = false := decide_eq_false c11
              clear c11
              simp only [Option.some.injEq, Prod.mk.injEq] at H
              obtain ⟨rfl, rfl⟩ := H
              go_wp2
              go_ret2
              exact ⟨_, by first | rfl | (simp [errW_none, errW_some] <;> rfl) | (simp [*, errW_none, errW_some] <;> rfl), by (with_reducible repeat (first | apply Kd.S_alloc | apply Kd.S_drewN | apply Kd.S_drew)); exact HO_5.out, by repeat (first | (with_reducible first | exact HB.out | apply below_alloc | apply pw_below_drewN | apply below_drew1) | exact HB.out)⟩
      · rw [if_neg c5] at H
        exact absurd H (by simp)
    · rw [if_neg c4] at H
      exact absurd H (by simp)
  · rw [if_neg c3] at H
    have c3b0 : (t101 == 0) = false := beq_eq_false_iff_ne.mpr c3
    have c3b1 : (t101 != 0) = true := bne_iff_ne.mpr c3
    simp only [Option.some.injEq, Prod.mk.injEq] at H
    obtain ⟨rfl, rfl⟩ := H
    go_enter Try.func27, Try.ntmps27
    go_wp2_with (first | ((with_reducible refine gate_callee (f := 79) rfl ?_); refine goesL_ (some 11) rfl rfl Try.func79 (by kernel_rfl) rfl #[.slice A0 l0.length c0] rfl (by (try simp only [List.map_toArray, List.map_cons, List.map_nil]); first | done | rfl | (simp only [List.length_drop, List.length_take]; rfl)) ?_; (with_reducible refine (spec_l02Code.calls k _ _ l0 t101 _ ?side1 ?side2 A2.out).mono ?_); (case side1 => repeat (first | exact HR0.out | (with_reducible refine Kd.C_alloc ?_ _) | (with_reducible refine Kd.C_drewN ?_ _) | (with_reducible refine Kd.C_drew ?_))); (case side2 => exact HC0.out); rintro e w46 ⟨rfl, hb⟩; refine ⟨_, rfl, ?_⟩; have n0_ := Aside0.mk (below_step (by repeat (first | (with_reducible first | exact HB.out | apply below_alloc | apply pw_below_drewN | apply below_drew1) | exact HB.out)) hb); clear HB; have HB := n0_; clear n0_; (try clear hb); (try clear hb2); (try clear hk); (try clear hi)))
    go_ret2
    exact ⟨_, by first | rfl | (simp [errW_none, errW_some] <;> rfl) | (simp [*, errW_none, errW_some] <;> rfl), by first | exact Kd.S_nil _ _ _ _ _ | exact Kd.N_nil _ _ _ _ _ | exact Kd.V_nil _ _ _ _ _ | exact Kd.Q_nil _ _ _ _ _ | exact Kd.R_nil _ _ _ _ _, by repeat (first | (with_reducible first | exact HB.out | apply below_alloc | apply pw_below_drewN | apply below_drew1) | exact HB.out)⟩

/-! ### impl_BlocksOf: function 29 -/
def impl_BlocksOf.l0 : Nat → List Int → List (List Int) → Int → Int → Option ((List (List Int)) × Int)
  | 0, _, _, _, _ => none
  | k + 1, x0, x4, x5, x6 => if x6 ≤ (x0.length : Int) then (if 0 ≤ x5 then (if x5 ≤ x6 then ((impl_twice.f ((x0.take (x6 : Int).toNat).drop (x5 : Int).toNat)).bind fun t106 => (if t106 = true then ((impl_normal.f ((x0.take (x6 : Int).toNat).drop (x5 : Int).toNat)).bind fun t108 => (if x4.length < 5864062014805 then (impl_BlocksOf.l0 k x0 (x4 ++ [t108]) x6 (wrap64 (x6 + 1))) else (none))) else (impl_BlocksOf.l0 k x0 x4 x5 (wrap64 (x6 + 1))))) else (none)) else (none)) else (some (x4, 0))
def impl_BlocksOf.f (k : Nat) (l0 : List Int) : Option ((List (List Int)) × Int) := (impl_IsWord.f k l0).bind fun t101 => (if t101 = true then (impl_BlocksOf.l0 k l0 (([] : List (List Int))) 0 1) else (some (([] : List (List Int)), 1)))
theorem impl_BlocksOf.mono_l : ∀ k, (∀ y0 y1 y2 y3, LeO (impl_BlocksOf.l0 k y0 y1 y2 y3) (impl_BlocksOf.l0 (k + 1) y0 y1 y2 y3))
  | 0 => fun _ _ _ _ r h => by simp [impl_BlocksOf.l0] at h
  | k + 1 => by
    have ih0 := impl_BlocksOf.mono_l k
    · intro y0 y1 y2 y3
      unfold impl_BlocksOf.l0
      repeat' first
      | (with_reducible exact ih0 _ _ _ _)
      | (with_reducible exact impl_IsWord.mono _ _)
      | (with_reducible exact LeO.refl _)
      | (with_reducible exact LeO.none _)
      | (with_reducible refine LeO.ite ?_ ?_)
      | (with_reducible refine LeO.bind ?_ (fun _ => ?_))
      | exact ih0 _ _ _ _
      | exact impl_IsWord.mono _ _
      | exact LeO.none _
      | refine LeO.ite ?_ ?_
      | refine LeO.bind ?_ (fun _ => ?_)
theorem impl_BlocksOf.mono : ∀ a0 k, LeO (impl_BlocksOf.f k a0) (impl_BlocksOf.f (k + 1) a0) := by
  intro a0 k
  have ih0 := impl_BlocksOf.mono_l k
  unfold impl_BlocksOf.f
  repeat' first
      | (with_reducible exact ih0 _ _ _ _)
      | (with_reducible exact impl_IsWord.mono _ _)
      | (with_reducible exact LeO.refl _)
      | (with_reducible exact LeO.none _)
      | (with_reducible refine LeO.ite ?_ ?_)
      | (with_reducible refine LeO.bind ?_ (fun _ => ?_))
      | exact ih0 _ _ _ _
      | exact impl_IsWord.mono _ _
      | exact LeO.none _
      | refine LeO.ite ?_ ?_
      | refine LeO.bind ?_ (fun _ => ?_)
set_option maxHeartbeats 8000000 in
set_option maxRecDepth 100000 in
theorem impl_BlocksOf.calls (k : Nat) (A0 : Option Addr) (c0 : Nat) (l0 : List Int) (r1 : List (List Int)) (r2 : Int) (w : World) (hr0 : Kd.C (Kd.int .i64) w A0 l0.length l0) (hc0 : l0.length ≤ c0) (h : impl_BlocksOf.f k l0 = some (r1, r2)) :
    Calls Try.prog 29 #[.slice A0 l0.length c0] w fun e w' => ∃ v0_ : Value, e = .returned (.tuple #[v0_, .int .i64 r2]) ∧ Kd.S (Kd.slice 2 (Kd.int .i64)) 28 w' w.heap.size (fun _ => True) v0_ r1 ∧ Below w.heap.size w w' := by
  have HR0 := Aside0.mk hr0
  have HC0 := Aside0.mk hc0
  clear hr0 hc0
  have HB := Aside0.mk (Below.refl w.heap.size w)
  have H : ((impl_IsWord.f k l0).bind fun t101 => (if t101 = true then (impl_BlocksOf.l0 k l0 (([] : List (List Int))) 0 1) else (some (([] : List (List Int)), 1)))) = some (r1, r2) := h
  clear h
  replace H := Option.bind_eq_some_iff.mp H
  obtain ⟨t101, A20, H⟩ := H
  replace H : (if t101 = true then (impl_BlocksOf.l0 k l0 (([] : List (List Int))) 0 1) else (some (([] : List (List Int)), 1))) = some (r1, r2) := H
  have A2 := Aside0.mk A20
  clear A20
  by_cases c3 : t101 = true
  · subst c3
    have H1 : (impl_BlocksOf.l0 k l0 (([] : List (List Int))) 0 1) = some (r1, r2) := by rw [if_pos rfl] at H; exact H
    clear H
    have H := H1
    clear H1
    obtain ⟨y102, hy102⟩ : ∃ y_ : List (List Int), y_ = (([] : List (List Int))) := ⟨_, rfl⟩
    replace H : (impl_BlocksOf.l0 k l0 y102 0 1) = some (r1, r2) := by first | (rw [hy102]; with_reducible exact H) | (have H2_ := (Option.bind_some _ _).symm.trans H; rw [hy102]; with_reducible exact H2_) | (have H2_ := (Option.bind_some _ _).symm.trans H; with_reducible exact H2_) | with_reducible exact H | (rw [hy102]; exact H) | exact H
    have Ny102 := Aside0.mk hy102
    clear hy102
    have H' := Aside0.mk H
    clear H
    go_enter Try.func29, Try.ntmps29
    go_wp2_with (first | ((with_reducible refine gate_callee (f := 81) rfl ?_); refine goesL_ (some 8) rfl rfl Try.func81 (by kernel_rfl) rfl #[.slice A0 l0.length c0] rfl (by (try simp only [List.map_toArray, List.map_cons, List.map_nil]); first | done | rfl | (simp only [List.length_drop, List.length_take]; rfl)) ?_; (with_reducible refine (impl_IsWord.calls k _ _ l0 true _ ?side1 ?side2 A2.out).mono ?_); (case side1 => repeat (first | exact HR0.out | (with_reducible refine Kd.C_alloc ?_ _) | (with_reducible refine Kd.C_drewN ?_ _) | (with_reducible refine Kd.C_drew ?_))); (case side2 => exact HC0.out); rintro e w4 ⟨rfl, hb⟩; refine ⟨_, rfl, ?_⟩; have n0_ := Aside0.mk (below_step (by repeat (first | (with_reducible first | exact HB.out | apply below_alloc | apply pw_below_drewN | apply below_drew1) | exact HB.out)) hb); clear HB; have HB := n0_; clear n0_; (try clear hb); (try clear hb2); (try clear hk); (try clear hi)) | ((with_reducible refine gate_dst (N := 10) rfl ?_); refine Kd.S_lit (Kd.slice 2 (Kd.int .i64)) _ 28 ?hg (N := 10) ?hd (xs := ([] : List (List Int))) (inner := []) (ok := fun _ => True) (okp := fun _ => True) ?hr ?hp (fun _ hk => hk) trivial (Below.refl _ _) (Nat.le_refl _) (by simp) ?_; (case hd => rfl); (case hg => rfl); (case hr => first | (go_simp; done) | (go_simp; rfl)); (case hp => exact (Reps.none _ _)); intro v103 w5 ho6 hb hg_ hnew_; clear hg_ hnew_; (first | rw [← Ny102.out] at ho6 | (simp only [Int.reduceToNat] at ho6; rw [← Ny102.out] at ho6)); have n0_ := Aside0.mk (Kd.S_lower ho6 (below_size (by repeat (first | (with_reducible first | exact HB.out | apply below_alloc | apply pw_below_drewN | apply below_drew1) | exact HB.out)))); have n1_ := Aside0.mk (below_step (by repeat (first | (with_reducible first | exact HB.out | apply below_alloc | apply pw_below_drewN | apply below_drew1) | exact HB.out)) hb); clear HB; have HO104 := n0_; have HB := n1_; clear n0_ n1_; clear hb ho6))
    go_loopg [4, 5, 6] k (fun kq v4 v5 v6 w' => ∃ (x4_1 : List (List Int)) (x5_1 : Int) (x6_1 : Int), v5 = .int .i64 x5_1 ∧ v6 = .int .i64 x6_1 ∧ Aside0 (impl_BlocksOf.l0 kq l0 x4_1 x5_1 x6_1 = some (r1, r2)) ∧ Aside0 (kq ≤ k) ∧ Aside0 (Kd.S (Kd.slice 2 (Kd.int .i64)) 28 w' w.heap.size (fun _ => True) v4 x4_1) ∧ Aside0 (Below w.heap.size w w'))
    case atStart => exact ⟨(y102), (0), (1), (by first | rfl | (simp; done) | (simp [*]; done)), (by first | rfl | (simp; done) | (simp [*]; done)), H', ⟨Nat.le_refl _⟩, ⟨by (with_reducible repeat (first | apply Kd.S_alloc | apply Kd.S_drewN | apply Kd.S_drew)); exact HO104.out⟩, ⟨by repeat (first | (with_reducible first | exact HB.out | apply below_alloc | apply pw_below_drewN | apply below_drew1) | exact HB.out)⟩⟩
    case round =>
      clear H'
      try clear c2
      try clear p2
      try clear c3
      obtain ⟨x4_1, x5_1, x6_1, rfl, rfl, HA, HK1, HO_4, HB⟩ := hrel
      cases gk with
      | zero => exact absurd HA.out (by simp [impl_BlocksOf.l0])
      | succ k1 =>
        have H := HA.out
        clear HA
        simp only [impl_BlocksOf.l0] at H
        by_cases c7 : x6_1 ≤ (l0.length : Int)
        · rw [if_pos c7] at H
          have c7b0 : decide (x6_1 ≤ (l0.length : Int)) = true := decide_eq_true c7
          clear c7
          by_cases c8 : 0 ≤ x5_1
          · rw [if_pos c8] at H
            have c8b0 := eq_true c8
            have c8b1 : decide (0 ≤ x5_1) = true := decide_eq_true c8
            clear c8
            by_cases c9 : x5_1 ≤ x6_1
            · rw [if_pos c9] at H
              have c9b0 := eq_true c9
              have c9b1 : decide (x5_1 ≤ x6_1) = true := decide_eq_true c9
              clear c9
              have c10b0 := eq_true (of_decide_eq_true (by first | (with_reducible assumption) | assumption) : x6_1 ≤ (l0.length : Int))
              replace H := Option.bind_eq_some_iff.mp H
              obtain ⟨t106, A110, H⟩ := H
              replace H : (if t106 = true then ((impl_normal.f ((l0.take (x6_1 : Int).toNat).drop (x5_1 : Int).toNat)).bind fun t108 => (if x4_1.length < 5864062014805 then (impl_BlocksOf.l0 k1 l0 (x4_1 ++ [t108]) x6_1 (wrap64 (x6_1 + 1))) else (none))) else (impl_BlocksOf.l0 k1 l0 x4_1 x5_1 (wrap64 (x6_1 + 1)))) = some (r1, r2) := H
              have A11 := Aside0.mk A110
              clear A110
              by_cases c12 : t106 = true
              · subst c12
                have H1 : ((impl_normal.f ((l0.take (x6_1 : Int).toNat).drop (x5_1 : Int).toNat)).bind fun t108 => (if x4_1.length < 5864062014805 then (impl_BlocksOf.l0 k1 l0 (x4_1 ++ [t108]) x6_1 (wrap64 (x6_1 + 1))) else (none))) = some (r1, r2) := by rw [if_pos rfl] at H; exact H
                clear H
                have H := H1
                clear H1
                have c13b0 := eq_true (of_decide_eq_true (by first | (with_reducible assumption) | assumption) : 0 ≤ x5_1)
                have c14b0 := eq_true (of_decide_eq_true (by first | (with_reducible assumption) | assumption) : x5_1 ≤ x6_1)
                have c15b0 := eq_true (of_decide_eq_true (by first | (with_reducible assumption) | assumption) : x6_1 ≤ (l0.length : Int))
                replace H := Option.bind_eq_some_iff.mp H
                obtain ⟨t108, A160, H⟩ := H
                replace H : (if x4_1.length < 5864062014805 then (impl_BlocksOf.l0 k1 l0 (x4_1 ++ [t108]) x6_1 (wrap64 (x6_1 + 1))) else (none)) = some (r1, r2) := H
                have A16 := Aside0.mk A160
                clear A160
                by_cases c17 : x4_1.length < 5864062014805
                · rw [if_pos c17] at H
                  have LMc17 := Aside0.mk c17
                  clear c17
                  obtain ⟨y111, hy111⟩ : ∃ y_ : List (List Int), y_ = (x4_1 ++ [t108]) := ⟨_, rfl⟩
                  replace H : (impl_BlocksOf.l0 k1 l0 y111 x6_1 (wrap64 (x6_1 + 1))) = some (r1, r2) := by first | (rw [hy111]; with_reducible exact H) | (have H2_ := (Option.bind_some _ _).symm.trans H; rw [hy111]; with_reducible exact H2_) | (have H2_ := (Option.bind_some _ _).symm.trans H; with_reducible exact H2_) | with_reducible exact H | (rw [hy111]; exact H) | exact H
                  have Ny111 := Aside0.mk hy111
                  clear hy111
                  have H' := Aside0.mk H
                  clear H
                  obtain ⟨i018, hi018, _, hsz18, _⟩ := info_parts info2
                  obtain ⟨A18, hcut18, hA18, hC18⟩ := print_mid_of (P := Try.prog) (Value.int .i64) 0 28 2 .i64 .i64 Try.underlying28 hi018 hsz18 A0 c0 l0 x5_1 x6_1 (of_decide_eq_true (by first | (with_reducible assumption) | assumption)) (by first | omega | exact of_decide_eq_true (by first | (with_reducible assumption) | assumption)) (of_decide_eq_true (by first | (with_reducible assumption) | assumption)) HC0.out
                  have HR105 := Aside0.mk (Kd.C_of_reads (h1 := fun _ => rfl) (hA18 _ (Kd.reads_of_C HR0.out)))
                  have HC105 := Aside0.mk hC18
                  clear hA18 hC18 hi018 hsz18
                  go_wp2_with (first | ((with_reducible refine gate_callee (f := 82) rfl ?_); refine goesL_ (some 21) rfl rfl Try.func82 (by kernel_rfl) rfl #[.slice A18 ((l0.take (x6_1 : Int).toNat).drop (x5_1 : Int).toNat).length (c0 - x5_1.toNat)] rfl (by (try simp only [List.map_toArray, List.map_cons, List.map_nil]); first | done | (rw [show ((l0.take (x6_1 : Int).toNat).drop (x5_1 : Int).toNat).length = (x6_1.toNat - x5_1.toNat) from (by rw [List.length_drop, List.length_take]; have h_ : (x6_1 : Int) ≤ (l0.length : Int) := of_decide_eq_true (by first | (with_reducible assumption) | assumption); omega)] <;> rfl) | rfl | (simp only [List.length_drop, List.length_take]; rfl)) ?_; (with_reducible refine (impl_twice.calls _ _ ((l0.take (x6_1 : Int).toNat).drop (x5_1 : Int).toNat) true _ ?side1 ?side2 A11.out).mono ?_); (case side1 => repeat (first | exact (Kd.C_below HR105.out HB.out) | (with_reducible refine Kd.C_alloc ?_ _) | (with_reducible refine Kd.C_drewN ?_ _) | (with_reducible refine Kd.C_drew ?_))); (case side2 => exact HC105.out); rintro e w19 ⟨rfl, hb⟩; refine ⟨_, rfl, ?_⟩; have n0_ := Aside0.mk (Kd.S_below (by (with_reducible repeat (first | apply Kd.S_alloc | apply Kd.S_drewN | apply Kd.S_drew)); exact HO_4.out) hb); have n1_ := Aside0.mk (below_step (by repeat (first | (with_reducible first | exact HB.out | apply below_alloc | apply pw_below_drewN | apply below_drew1) | exact HB.out)) hb); clear HO_4; clear HB; have HO_4 := n0_; have HB := n1_; clear n0_ n1_; (try clear hb); (try clear hb2); (try clear hk); (try clear hi); obtain ⟨i020, hi020, _, hsz20, _⟩ := info_parts info2; obtain ⟨A20, -, hA20, hC20⟩ := print_mid_of (P := Try.prog) (Value.int .i64) 0 28 2 .i64 .i64 Try.underlying28 hi020 hsz20 A0 c0 l0 x5_1 x6_1 (of_decide_eq_true (by first | (with_reducible assumption) | assumption)) (by first | omega | exact of_decide_eq_true (by first | (with_reducible assumption) | assumption)) (of_decide_eq_true (by first | (with_reducible assumption) | assumption)) HC0.out; have HR107 := Aside0.mk (Kd.C_of_reads (h1 := fun _ => rfl) (hA20 _ (Kd.reads_of_C HR0.out))); have HC107 := Aside0.mk hC20; clear hA20 hC20 hi020 hsz20) | ((with_reducible refine gate_callee (f := 83) rfl ?_); refine goesL_ (some 27) rfl rfl Try.func83 (by kernel_rfl) rfl #[.slice A18 ((l0.take (x6_1 : Int).toNat).drop (x5_1 : Int).toNat).length (c0 - x5_1.toNat)] rfl (by (try simp only [List.map_toArray, List.map_cons, List.map_nil]); first | done | (rw [show ((l0.take (x6_1 : Int).toNat).drop (x5_1 : Int).toNat).length = (x6_1.toNat - x5_1.toNat) from (by rw [List.length_drop, List.length_take]; have h_ : (x6_1 : Int) ≤ (l0.length : Int) := of_decide_eq_true (by first | (with_reducible assumption) | assumption); omega)] <;> rfl) | rfl | (simp only [List.length_drop, List.length_take]; rfl)) ?_; (with_reducible refine (impl_normal.calls _ _ ((l0.take (x6_1 : Int).toNat).drop (x5_1 : Int).toNat) t108 _ ?side1 ?side2 A16.out).mono ?_); (case side1 => repeat (first | exact (Kd.C_below HR105.out HB.out) | (with_reducible refine Kd.C_alloc ?_ _) | (with_reducible refine Kd.C_drewN ?_ _) | (with_reducible refine Kd.C_drew ?_))); (case side2 => exact HC105.out); rintro e w21 ⟨v109, rfl, ho0, hb⟩; refine ⟨_, rfl, ?_⟩; have n0_ := Aside0.mk (Kd.S_elder' (by (with_reducible repeat (first | apply Kd.S_alloc | apply Kd.S_drewN | apply Kd.S_drew)); exact HO_4.out) (Kd.R_base ho0) hb); have n1_ := Aside0.mk (Kd.R_lower ho0 (below_size (by repeat (first | (with_reducible first | exact HB.out | apply below_alloc | apply pw_below_drewN | apply below_drew1) | exact HB.out)))); have n2_ := Aside0.mk (below_step (by repeat (first | (with_reducible first | exact HB.out | apply below_alloc | apply pw_below_drewN | apply below_drew1) | exact HB.out)) hb); clear HO_4; clear HB; have HO_4 := n0_; have HO110 := n1_; have HB := n2_; clear n0_ n1_ n2_; (try clear hb); (try clear hb2); (try clear hk); (try clear hi); (try clear ho0); obtain ⟨Ao23, co23, eo23⟩ := Kd.R_slice HO110.out; subst eo23) | ((with_reducible refine gate_builtin (b := .append) (xs := #[.tmp 22, .tmp 28]) rfl ?_); at_builtin; refine Kd.S_append (Kd.slice 2 (Kd.int .i64)) (w0 := w) w.heap.size rfl (.tmp 22) (.tmp 28) 22 28 (.slice none 0 0) 24 rfl Try.underlying22 info28 rfl (by decide) (by omega) u4 x4_1 t108 [.slice Ao23 t108.length co23] (fun _ => True) (fun k_ => some k_ = (.slice Ao23 t108.length co23 : Value).ownBlock) rfl rfl ?aP (fun k_ hk_ => ((Kd.R_mono (ok' := fun k_ => ((fun _ => True)) k_ ∧ some k_ ≠ (u4 : Value).ownBlock) (Kd.R_apart' (HO110.out) (Kd.S_typed HO_4.out) (by decide)) (fun k_ hk => ⟨trivial, hk.2⟩))).1 k_ hk_.symm) ?aF ?aO ?aB ?aS ?aL ?_; (case aP => exact Kd.M_row (Kd.R_mono (Kd.R_tight rfl (Kd.R_mono (ok' := fun k_ => ((fun _ => True)) k_ ∧ some k_ ≠ (u4 : Value).ownBlock) (Kd.R_apart' (HO110.out) (Kd.S_typed HO_4.out) (by decide)) (fun k_ hk => ⟨trivial, hk.2⟩))) (fun _ h_ => h_))); (case aB => exact (by repeat (first | (with_reducible first | exact HB.out | apply below_alloc | apply pw_below_drewN | apply below_drew1) | exact HB.out))); (case aF => exact (fun _ _ => trivial)); (case aO => exact (by (with_reducible repeat (first | apply Kd.S_alloc | apply Kd.S_drewN | apply Kd.S_drew)); exact Kd.S_mono HO_4.out (fun k_ hk => ⟨trivial, fun e_ => hk.2 e_⟩))); (case aS => exact (below_size (by repeat (first | (with_reducible first | exact HB.out | apply below_alloc | apply pw_below_drewN | apply below_drew1) | exact HB.out)))); (case aL => have := LMc17.out; omega); intro v112 w22 ho hb hg hat; rw [← Ny111.out] at ho; have n0_ := Aside0.mk (hb); have n1_ := Aside0.mk (ho); clear HB; clear HO_4; clear HO110; have HB := n0_; have HO113 := n1_; clear n0_ n1_; clear ho hb hg hat))
                  go_roundg k1
                  case measure => have := HK1.out; omega
                  case rel => exact ⟨(y111), (x6_1), (wrap64 (x6_1 + 1)), (by first | rfl | (simp; done) | (simp [*]; done)), (by first | rfl | (simp; done) | (simp [*]; done)), H', ⟨by have := HK1.out; omega⟩, ⟨by (with_reducible repeat (first | apply Kd.S_alloc | apply Kd.S_drewN | apply Kd.S_drew)); exact HO113.out⟩, ⟨by repeat (first | (with_reducible first | exact HB.out | apply below_alloc | apply pw_below_drewN | apply below_drew1) | exact HB.out)⟩⟩
                · rw [if_neg c17] at H
                  exact absurd H (by simp)
              · replace c12 := Bool.eq_false_iff.mpr c12
                subst c12
                have H1 : (impl_BlocksOf.l0 k1 l0 x4_1 x5_1 (wrap64 (x6_1 + 1))) = some (r1, r2) := by rw [if_neg (show ¬ (false = true) by decide)] at H; exact H
                clear H
                have H := H1
                clear H1
                have H' := Aside0.mk H
                clear H
                obtain ⟨i024, hi024, _, hsz24, _⟩ := info_parts info2
                obtain ⟨A24, hcut24, hA24, hC24⟩ := print_mid_of (P := Try.prog) (Value.int .i64) 0 28 2 .i64 .i64 Try.underlying28 hi024 hsz24 A0 c0 l0 x5_1 x6_1 (of_decide_eq_true (by first | (with_reducible assumption) | assumption)) (by first | omega | exact of_decide_eq_true (by first | (with_reducible assumption) | assumption)) (of_decide_eq_true (by first | (with_reducible assumption) | assumption)) HC0.out
                have HR105 := Aside0.mk (Kd.C_of_reads (h1 := fun _ => rfl) (hA24 _ (Kd.reads_of_C HR0.out)))
                have HC105 := Aside0.mk hC24
                clear hA24 hC24 hi024 hsz24
                go_wp2_with (first | ((with_reducible refine gate_callee (f := 82) rfl ?_); refine goesL_ (some 21) rfl rfl Try.func82 (by kernel_rfl) rfl #[.slice A24 ((l0.take (x6_1 : Int).toNat).drop (x5_1 : Int).toNat).length (c0 - x5_1.toNat)] rfl (by (try simp only [List.map_toArray, List.map_cons, List.map_nil]); first | done | (rw [show ((l0.take (x6_1 : Int).toNat).drop (x5_1 : Int).toNat).length = (x6_1.toNat - x5_1.toNat) from (by rw [List.length_drop, List.length_take]; have h_ : (x6_1 : Int) ≤ (l0.length : Int) := of_decide_eq_true (by first | (with_reducible assumption) | assumption); omega)] <;> rfl) | rfl | (simp only [List.length_drop, List.length_take]; rfl)) ?_; (with_reducible refine (impl_twice.calls _ _ ((l0.take (x6_1 : Int).toNat).drop (x5_1 : Int).toNat) false _ ?side1 ?side2 A11.out).mono ?_); (case side1 => repeat (first | exact (Kd.C_below HR105.out HB.out) | (with_reducible refine Kd.C_alloc ?_ _) | (with_reducible refine Kd.C_drewN ?_ _) | (with_reducible refine Kd.C_drew ?_))); (case side2 => exact HC105.out); rintro e w25 ⟨rfl, hb⟩; refine ⟨_, rfl, ?_⟩; have n0_ := Aside0.mk (Kd.S_below (by (with_reducible repeat (first | apply Kd.S_alloc | apply Kd.S_drewN | apply Kd.S_drew)); exact HO_4.out) hb); have n1_ := Aside0.mk (below_step (by repeat (first | (with_reducible first | exact HB.out | apply below_alloc | apply pw_below_drewN | apply below_drew1) | exact HB.out)) hb); clear HO_4; clear HB; have HO_4 := n0_; have HB := n1_; clear n0_ n1_; (try clear hb); (try clear hb2); (try clear hk); (try clear hi)))
                go_roundg k1
                case measure => have := HK1.out; omega
                case rel => exact ⟨(x4_1), (x5_1), (wrap64 (x6_1 + 1)), (by first | rfl | (simp; done) | (simp [*]; done)), (by first | rfl | (simp; done) | (simp [*]; done)), H', ⟨by have := HK1.out; omega⟩, ⟨by (with_reducible repeat (first | apply Kd.S_alloc | apply Kd.S_drewN | apply Kd.S_drew)); exact HO_4.out⟩, ⟨by repeat (first | (with_reducible first | exact HB.out | apply below_alloc | apply pw_below_drewN | apply below_drew1) | exact HB.out)⟩⟩
            · rw [if_neg c9] at H
              exact absurd H (by simp)
          · rw [if_neg c8] at H
            exact absurd H (by simp)
        · rw [if_neg c7] at H
          have c7b0 : decide (x6_1 ≤ (l0.length : Int)) = false := decide_eq_false c7
          clear c7
          simp only [Option.some.injEq, Prod.mk.injEq] at H
          obtain ⟨rfl, rfl⟩ := H
          go_wp2
          go_ret2
          exact ⟨_, by first | rfl | (simp [errW_none, errW_some] <;> rfl) | (simp [*, errW_none, errW_some] <;> rfl), by (with_reducible repeat (first | apply Kd.S_alloc | apply Kd.S_drewN | apply Kd.S_drew)); exact HO_4.out, by repeat (first | (with_reducible first | exact HB.out | apply below_alloc | apply pw_below_drewN | apply below_drew1) | exact HB.out)⟩
  · replace c3 := Bool.eq_false_iff.mpr c3
    subst c3
    have H1 : (some (([] : List (List Int)), 1)) = some (r1, r2) := by rw [if_neg (show ¬ (false = true) by decide)] at H; exact H
    clear H
    have H := H1
    clear H1
    simp only [Option.some.injEq, Prod.mk.injEq] at H
    obtain ⟨rfl, rfl⟩ := H
    go_enter Try.func29, Try.ntmps29
    go_wp2_with (first | ((with_reducible refine gate_callee (f := 81) rfl ?_); refine goesL_ (some 8) rfl rfl Try.func81 (by kernel_rfl) rfl #[.slice A0 l0.length c0] rfl (by (try simp only [List.map_toArray, List.map_cons, List.map_nil]); first | done | rfl | (simp only [List.length_drop, List.length_take]; rfl)) ?_; (with_reducible refine (impl_IsWord.calls k _ _ l0 false _ ?side1 ?side2 A2.out).mono ?_); (case side1 => repeat (first | exact HR0.out | (with_reducible refine Kd.C_alloc ?_ _) | (with_reducible refine Kd.C_drewN ?_ _) | (with_reducible refine Kd.C_drew ?_))); (case side2 => exact HC0.out); rintro e w26 ⟨rfl, hb⟩; refine ⟨_, rfl, ?_⟩; have n0_ := Aside0.mk (below_step (by repeat (first | (with_reducible first | exact HB.out | apply below_alloc | apply pw_below_drewN | apply below_drew1) | exact HB.out)) hb); clear HB; have HB := n0_; clear n0_; (try clear hb); (try clear hb2); (try clear hk); (try clear hi)))
    go_ret2
    exact ⟨_, by first | rfl | (simp [errW_none, errW_some] <;> rfl) | (simp [*, errW_none, errW_some] <;> rfl), by first | exact Kd.S_nil _ _ _ _ _ | exact Kd.N_nil _ _ _ _ _ | exact Kd.V_nil _ _ _ _ _ | exact Kd.Q_nil _ _ _ _ _ | exact Kd.R_nil _ _ _ _ _, by repeat (first | (with_reducible first | exact HB.out | apply below_alloc | apply pw_below_drewN | apply below_drew1) | exact HB.out)⟩

/-! ### laws_FnExactBlocksOf: function 4, by hand -/
def laws_FnExactBlocksOf.Told (l0 : List Int) (k : Nat) (R : List (List Int)) (c m : Int) (R2 : List (List Int)) (m0 : Int) (q0 : List Int) : Prop :=
  spec_BlocksOf.f k l0 = some (R, c) ∧ impl_BlocksOf.f k l0 = some (R, c) ∧ laws_eqInt64SS.f k R R = some true ∧ laws_markInt64SS.f k R 1 = some (m, R2) ∧ laws_heldInt64SS.f k R2 1 = some m ∧ 0 ≤ m ∧ laws_toInt64S.f k l0 = some l0 ∧ laws_eqInt64S.f k l0 l0 = some true ∧ laws_markInt64S.f k l0 1 = some (m0, q0) ∧ 0 ≤ m0
def laws_FnExactBlocksOf.Pure : Prop := ∀ (l0 : List Int), l0.length ≤ maxLen → l0.length * 8 ≤ 140737488351232 → (∀ x ∈ l0, (Lit.int .i64 x).wf = true) → l0.length ≤ 1048576 → ∃ k R c m R2 m0 q0, laws_FnExactBlocksOf.Told l0 k R c m R2 m0 q0
set_option maxHeartbeats 16000000 in
set_option maxRecDepth 100000 in
theorem laws_FnExactBlocksOf.one (A0 : Option Addr) (c0 : Nat) (l0 : List Int) (w : World) (hr0 : Kd.C (Kd.int .i64) w A0 l0.length l0) (hc0 : l0.length ≤ c0) (hs0 : l0.length ≤ 1048576) (k : Nat) (R : List (List Int)) (c m : Int) (R2 : List (List Int)) (m0 : Int) (q0 : List Int) (h : laws_FnExactBlocksOf.Told l0 k R c m R2 m0 q0) :
    Calls Try.prog 4 #[.slice A0 l0.length c0] w fun e w' => e = .returned (.bool true) ∧ Below w.heap.size w w' := by
  obtain ⟨h1, h2, h3, h4, h5, h6, h7, h8, h9, h10⟩ := h
  have FS := Aside0.mk h1
  have FI := Aside0.mk h2
  have FE := Aside0.mk h3
  have FM := Aside0.mk h4
  have FH := Aside0.mk h5
  have FT := Aside0.mk h7
  have FQ := Aside0.mk h8
  have FK := Aside0.mk h9
  clear h1 h2 h3 h4 h5 h7 h8 h9
  have d3 : decide (m < 0) = false := decide_eq_false (by omega)
  have d1 : decide (1048576 < l0.length) = false := decide_eq_false (by omega)
  have d2 : decide ((1048576 : Int) < (l0.length : Int)) = false := decide_eq_false (by omega)
  have d4 : decide (m0 < 0) = false := decide_eq_false (by omega)
  have HA := Aside0.mk hr0
  have HC := Aside0.mk hc0
  clear hr0 hc0 hs0 h6 h10
  go_enter Try.func4, Try.ntmps4
  go_wp2_with fail
  refine (laws_toInt64S.calls k _ _ l0 l0 _ (Kd.C_below HA.out (Below.refl _ _)) HC.out FT.out).mono ?_
  rintro e w1 ⟨v1, rfl, ho, hb⟩
  have R1 := Aside0.mk ho
  have B1 := Aside0.mk hb
  clear ho hb
  obtain ⟨A1, c1, rfl⟩ := Kd.R_slice R1.out
  go_wp2_with fail
  refine (spec_BlocksOf.calls k _ _ l0 R c _ (Kd.R_reads' R1.out).2.2 (Kd.R_reads' R1.out).2.1 FS.out).mono ?_
  rintro e w2 ⟨v2, rfl, ho, hb⟩
  obtain ⟨A2, c2, rfl, k2, hC2⟩ := Kd.S_reads ho
  have K2 := Aside0.mk k2
  have C2 := Aside0.mk hC2
  have BW := Aside0.mk (below_step B1.out hb)
  clear ho hb k2 hC2 R1 B1
  go_wp2_with fail
  refine (laws_toInt64S.calls k _ _ l0 l0 _ (Kd.C_below HA.out (BW.out)) HC.out FT.out).mono ?_
  rintro e w3 ⟨v3, rfl, ho, hb⟩
  have R3 := Aside0.mk ho
  have B3 := Aside0.mk hb
  clear ho hb
  obtain ⟨A3, c3, rfl⟩ := Kd.R_slice R3.out
  have BR := B3
  go_wp2_with fail
  refine (impl_BlocksOf.calls k _ _ l0 R c _ (Kd.R_reads' R3.out).2.2 (Kd.R_reads' R3.out).2.1 FI.out).mono ?_
  rintro e w4 ⟨v4, rfl, ho, hb⟩
  have S4 := Aside0.mk ho
  have B4 := Aside0.mk hb
  clear ho hb
  obtain ⟨A4, c4, rfl⟩ := Kd.S_slice S4.out
  have BR4 := Aside0.mk (below_step BR.out B4.out)
  go_wp2_with fail
  refine (laws_eqInt64SS.calls k _ _ R _ _ R true _ (Kd.S_reads' (S4.out)).2.2 (Kd.S_reads' (S4.out)).2.1 (Kd.C_below C2.out (BR4.out)) K2.out FE.out).mono ?_
  rintro e w5 ⟨rfl, hd⟩
  have D5 := Aside0.mk hd.below
  clear hd
  have BR5 := Aside0.mk (below_step BR4.out D5.out)
  have S5 := Aside0.mk (Kd.S_below S4.out D5.out)
  have R5 := Aside0.mk (Kd.R_below (Kd.R_below R3.out B4.out) D5.out)
  go_wp2_with fail
  refine (laws_toInt64S.calls k _ _ l0 l0 _ (Kd.C_below HA.out (below_then BW.out BW.out.size (BR5.out))) HC.out FT.out).mono ?_
  rintro e w6 ⟨v6, rfl, ho, hb⟩
  have R6 := Aside0.mk ho
  have B6 := Aside0.mk hb
  clear ho hb
  obtain ⟨A6, c6, rfl⟩ := Kd.R_slice R6.out
  have BR6 := Aside0.mk (below_step BR5.out B6.out)
  have S6 := Aside0.mk (Kd.S_below S5.out B6.out)
  have R56 := Aside0.mk (Kd.R_below R5.out B6.out)
  go_wp2_with fail
  refine (laws_eqInt64S.calls k _ _ l0 _ _ l0 true _ (Kd.R_reads' R56.out).2.2 (Kd.R_reads' R56.out).2.1 (Kd.R_reads' R6.out).2.2 (Kd.R_reads' R6.out).2.1 FQ.out).mono ?_
  rintro e w7 ⟨rfl, hd⟩
  have D7 := Aside0.mk hd.below
  clear hd
  have BR7 := Aside0.mk (below_step BR6.out D7.out)
  have S7 := Aside0.mk (Kd.S_below S6.out D7.out)
  have R7 := Aside0.mk (Kd.R_tight rfl (Kd.R_below R56.out D7.out))
  go_wp2_with fail
  refine (laws_markInt64S.calls k _ _ l0 1 m0 q0 w2 _ BR7.out R7.out FK.out).mono ?_
  rintro e w8 ⟨rfl, _, hb, hk⟩
  have BR8 := Aside0.mk hb
  have S8 := Aside0.mk (Kd.S_kept (Kd.S_mono (ok' := fun k_ => w3.heap.size ≤ k_) (Kd.S_bound S7.out) (fun k_ hk_ => hk_.2.1)) hk (fun k_ hk_ hs_ => by have := Kd.R_lt R3.out k_ hs_.symm; omega))
  clear hb hk
  go_wp2_with fail
  refine (laws_eqInt64SS.calls k _ _ R _ _ R true _ (Kd.S_reads' (S8.out)).2.2 (Kd.S_reads' (S8.out)).2.1 (Kd.C_below C2.out (BR8.out)) K2.out FE.out).mono ?_
  rintro e w9 ⟨rfl, hd⟩
  have D9 := Aside0.mk hd.below
  clear hd
  have BR9 := Aside0.mk (below_step BR8.out D9.out)
  have S9 := Aside0.mk (Kd.S_lower (Kd.S_below S8.out D9.out) BR.out.size)
  go_wp2_with fail
  refine (laws_markInt64SS.calls k _ _ R 1 m R2 w2 _ BR9.out S9.out FM.out).mono ?_
  rintro e w10 ⟨rfl, ho, hb, _⟩
  have BR10 := Aside0.mk hb
  have S10 := Aside0.mk ho
  clear ho hb
  go_wp2_with fail
  have hl_ := (Kd.S_reads' S10.out).1
  have hh_ := laws_heldInt64SS.calls k _ _ R2 1 m _ (Kd.S_reads' S10.out).2.2 (by rw [← hl_]; exact (Kd.S_reads' S10.out).2.1) FH.out
  rw [← hl_] at hh_
  clear hl_
  refine hh_.mono ?_
  clear hh_
  rintro e w11 ⟨rfl, hd⟩
  have D11 := Aside0.mk hd.below
  clear hd
  have BR11 := Aside0.mk (below_step BR10.out D11.out)
  have S11 := Aside0.mk (Kd.S_below S10.out D11.out)
  go_wp2_with fail
  refine (laws_toInt64S.calls k _ _ l0 l0 _ (Kd.C_below HA.out (below_then BW.out BW.out.size (BR11.out))) HC.out FT.out).mono ?_
  rintro e w12 ⟨v12, rfl, ho, hb⟩
  have R12 := Aside0.mk ho
  have B12 := Aside0.mk hb
  clear ho hb
  obtain ⟨A12, c12, rfl⟩ := Kd.R_slice R12.out
  have BR12 := Aside0.mk (below_step BR11.out B12.out)
  have S12 := Aside0.mk (Kd.S_below S11.out B12.out)
  go_wp2_with fail
  refine (impl_BlocksOf.calls k _ _ l0 R c _ (Kd.R_reads' R12.out).2.2 (Kd.R_reads' R12.out).2.1 FI.out).mono ?_
  rintro e w13 ⟨v13, rfl, ho, hb⟩
  have S13 := Aside0.mk ho
  have B13 := Aside0.mk hb
  clear ho hb
  obtain ⟨A13, c13, rfl⟩ := Kd.S_slice S13.out
  have BR13 := Aside0.mk (below_step BR12.out B13.out)
  have T13 := Aside0.mk (Kd.S_below S12.out B13.out)
  go_wp2_with fail
  refine (laws_eqInt64SS.calls k _ _ R _ _ R true _ (Kd.S_reads' (S13.out)).2.2 (Kd.S_reads' (S13.out)).2.1 (Kd.C_below C2.out (BR13.out)) K2.out FE.out).mono ?_
  rintro e w14 ⟨rfl, hd⟩
  have D14 := Aside0.mk hd.below
  clear hd
  have BR14 := Aside0.mk (below_step BR13.out D14.out)
  have T14 := Aside0.mk (Kd.S_below T13.out D14.out)
  go_wp2_with fail
  have hl_ := (Kd.S_reads' T14.out).1
  have hh_ := laws_heldInt64SS.calls k _ _ R2 1 m _ (Kd.S_reads' T14.out).2.2 (by rw [← hl_]; exact (Kd.S_reads' T14.out).2.1) FH.out
  rw [← hl_] at hh_
  clear hl_
  refine hh_.mono ?_
  clear hh_
  rintro e w15 ⟨rfl, hd⟩
  have D15 := Aside0.mk hd.below
  clear hd
  have BR15 := Aside0.mk (below_step BR14.out D15.out)
  go_wp2
  go_ret
  exact ⟨rfl, below_then BW.out BW.out.size (BR15.out)⟩
set_option maxHeartbeats 4000000 in
theorem laws_FnExactBlocksOf.early (A0 : Option Addr) (c0 : Nat) (l0 : List Int) (w : World) (hs0 : 1048576 < l0.length) (hm : l0.length ≤ maxLen) :
    Calls Try.prog 4 #[.slice A0 l0.length c0] w fun e w' => e = .returned (.bool true) ∧ Below w.heap.size w w' := by
  have d1 : decide (1048576 < l0.length) = true := decide_eq_true hs0
  have d2 : decide ((1048576 : Int) < (l0.length : Int)) = true := decide_eq_true (by omega)
  go_enter Try.func4, Try.ntmps4
  go_wp2
  go_ret
  exact ⟨rfl, Below.refl _ _⟩
theorem laws_FnExactBlocksOf.walk (P : laws_FnExactBlocksOf.Pure) (a0 : Option Addr) (len0 cap0 : Nat) (z0 : List Int) (w : World) (w0 : (a0 = none ∧ len0 = 0 ∧ cap0 = 0 ∧ z0 = []) ∨ ∃ x, a0 = some x ∧ len0 ≤ cap0 ∧ cap0 ≤ maxLen ∧ z0.length = cap0 ∧ (∀ i, i < z0.length → w.cell? (x.add i) = some (.int .i64 (z0.getD i 0))) ∧ ∀ n ∈ z0, (Lit.int .i64 n).wf = true) (y0 : len0 * 8 ≤ 140737488351232) :
    Calls Try.prog 4 #[.slice a0 len0 cap0] w fun e w' => e = .returned (.bool true) ∧ Below w.heap.size w w' := by
  obtain ⟨l0, rfl, hr0, hm0, hw0, hc0⟩ := ReadsInt.ofRowC w0
  by_cases hs : l0.length ≤ 1048576
  · obtain ⟨k, R, c, m, R2, m0, q0, h⟩ := P l0 hm0 y0 hw0 hs
    exact laws_FnExactBlocksOf.one _ _ l0 w (Kd.C_of_reads (d := (0 : Int)) (h1 := fun _ => rfl) hr0) hc0 hs k R c m R2 m0 q0 h
  · exact laws_FnExactBlocksOf.early _ _ l0 w (by omega) hm0

end Go.Proofs.Ytckmncebedhgeaa.G
